import Derived.Test.YtojnhgeffnjndaaProg
import Derived.Test.YtojnhgeffnjndaaPu8
import Derived.Test.YtojnhgeffnjndaaS3w34
import Derived.Test.YtojnhgeffnjndaaS3w35
import Derived.Test.YtojnhgeffnjndaaS3w36
import Derived.WalkKit
import Derived.Outline
import Derived.WalkLawsBesides
import Derived.Deep.QuietTactic
import Derived.BigQuiet
import Derived.Lib.Hide
import Derived.Handy
import Derived.Deep.RegionHeld3
import Derived.Deep.DrawnRows
import Derived.Sort.Walk0
import Derived.Great.Walk
import Derived.OneCell
import Derived.OwnWalk
import Derived.Laws.OwnMore
namespace Go.Proofs.Ytojnhgeffnjndaa.T
open Go Go.RowKit Mem Go.Great
set_option maxRecDepth 100000
set_option maxHeartbeats 8000000
set_option linter.unusedVariables false
set_option linter.unusedSimpArgs false

def AccN (g i : Nat) (a : List ByteArray) (w : World) : Prop := Acc g a w ∧ a.length ≤ i

theorem acc_new (w : World) : Acc w.heap.size [] (w.alloc (.cells #[.slice none 0 0] 22)) :=
  ⟨.slice none 0 0, heap_alloc_new w _, World.ownsRow_nil _ _ _ _⟩
theorem bit_new (w : World) (x : Bool) : Bit w.heap.size x (w.alloc (.cells #[.bool x] 4)) := heap_alloc_new w _
theorem own_rd {w : World} {B n : Nat} {A : Option Addr} {c : Nat} {l : List ByteArray} (h : w.ownsRow B 9 1 (.slice A n c) l.length (vs l)) : Rd w A l ∧ n = l.length ∧ l.length ≤ c ∧ c ≤ maxLen := by
  have h' := h
  rcases h.2 with ⟨e, h0⟩ | ⟨g, cap, cur, e, _, hg, hnc, hcm, _⟩
  · injection e with e1 e2 e3
    refine ⟨.inl (List.eq_nil_of_length_eq_zero h0), by omega, by omega, by rw [e3]; exact Nat.zero_le _⟩
  · injection e with e1 e2 e3
    subst e1; subst e2; subst e3
    refine ⟨.inr ⟨g, 0, rfl, fun i x hx => ?_⟩, rfl, hnc, hcm⟩
    have hi : i < l.length := (List.getElem?_eq_some_iff.1 hx).1
    have := h'.cellAt i (by omega)
    rw [Nat.zero_add, this]
    simp [vs, hx]


theorem union_is (A B : Option Addr) (la lb : List ByteArray) (ca cb : Nat) (w : World) (ha : Rd w A la) (hb : Rd w B lb) (hca : la.length ≤ ca) (hcb : lb.length ≤ cb) (hN : la.length + lb.length < 2 ^ 42) (hca2 : ca ≤ maxLen) (hcb2 : cb ≤ maxLen) :
    Calls Try.prog 17 #[.slice A la.length ca, .slice B lb.length cb] w fun e w' => ∃ C c, e = .returned (.slice C (uni la lb).length c) ∧ w'.ownsRow (w.heap.size + 1) 9 1 (.slice C (uni la lb).length c) (uni la lb).length (vs (uni la lb)) ∧ Below w.heap.size w w' := by
  go_enter Try.func17, Try.ntmps17
  have HC := Lib.hid (walk33 sUni (AccN w.heap.size) w (w.alloc (.cells #[.slice none 0 0] 22)) la lb A B ca cb [] ha hb hca hcb hN hca2 hcb2 ((Below.refl _ _).alloc (Nat.le_refl _) _) ⟨acc_new w, Nat.le_refl _⟩ (fun i a w q h => h)
    (fun i a s f t wr hi h => (union_tell w.heap.size a s f t wr h.1 (by have := h.2; omega)).mono fun e w' ⟨h1, h2, h3⟩ => ⟨h1, ⟨h2, by have := h.2; (try unfold sUni); (try split) <;> simp <;> omega⟩, h3⟩))
  clear ha hb
  go_wp2_with (go_at_call 32; refine HC.out.mono ?_; rintro e w1 ⟨rfl, ⟨i, ⟨⟨v, hv, hown⟩, hlen⟩⟩, hbel⟩; obtain ⟨C, c, rfl⟩ := own_slice hown; have hc1 := cell_of_one hv; have HO := Lib.hid hown; have HB := Lib.hid hbel; clear hv hown hbel hlen)
  go_ret
  exact ⟨C, c, rfl, HO.out, HB.out⟩

theorem meet_is (A B : Option Addr) (la lb : List ByteArray) (ca cb : Nat) (w : World) (ha : Rd w A la) (hb : Rd w B lb) (hca : la.length ≤ ca) (hcb : lb.length ≤ cb) (hN : la.length + lb.length < 2 ^ 42) (hca2 : ca ≤ maxLen) (hcb2 : cb ≤ maxLen) :
    Calls Try.prog 18 #[.slice A la.length ca, .slice B lb.length cb] w fun e w' => ∃ C c, e = .returned (.slice C (mee la lb).length c) ∧ w'.ownsRow (w.heap.size + 1) 9 1 (.slice C (mee la lb).length c) (mee la lb).length (vs (mee la lb)) ∧ Below w.heap.size w w' := by
  go_enter Try.func18, Try.ntmps18
  have HC := Lib.hid (walk34 sMeet (AccN w.heap.size) w (w.alloc (.cells #[.slice none 0 0] 22)) la lb A B ca cb [] ha hb hca hcb hN hca2 hcb2 ((Below.refl _ _).alloc (Nat.le_refl _) _) ⟨acc_new w, Nat.le_refl _⟩ (fun i a w q h => h)
    (fun i a s f t wr hi h => (meet_tell w.heap.size a s f t wr h.1 (by have := h.2; omega)).mono fun e w' ⟨h1, h2, h3⟩ => ⟨h1, ⟨h2, by have := h.2; (try unfold sMeet); (try split) <;> simp <;> omega⟩, h3⟩))
  clear ha hb
  go_wp2_with (go_at_call 32; refine HC.out.mono ?_; rintro e w1 ⟨rfl, ⟨i, ⟨⟨v, hv, hown⟩, hlen⟩⟩, hbel⟩; obtain ⟨C, c, rfl⟩ := own_slice hown; have hc1 := cell_of_one hv; have HO := Lib.hid hown; have HB := Lib.hid hbel; clear hv hown hbel hlen)
  go_ret
  exact ⟨C, c, rfl, HO.out, HB.out⟩

theorem less_is (A B : Option Addr) (la lb : List ByteArray) (ca cb : Nat) (w : World) (ha : Rd w A la) (hb : Rd w B lb) (hca : la.length ≤ ca) (hcb : lb.length ≤ cb) (hN : la.length + lb.length < 2 ^ 42) (hca2 : ca ≤ maxLen) (hcb2 : cb ≤ maxLen) :
    Calls Try.prog 21 #[.slice A la.length ca, .slice B lb.length cb] w fun e w' => ∃ C c, e = .returned (.slice C (les la lb).length c) ∧ w'.ownsRow (w.heap.size + 1) 9 1 (.slice C (les la lb).length c) (les la lb).length (vs (les la lb)) ∧ Below w.heap.size w w' := by
  go_enter Try.func21, Try.ntmps21
  have HC := Lib.hid (walk35 sLess (AccN w.heap.size) w (w.alloc (.cells #[.slice none 0 0] 22)) la lb A B ca cb [] ha hb hca hcb hN hca2 hcb2 ((Below.refl _ _).alloc (Nat.le_refl _) _) ⟨acc_new w, Nat.le_refl _⟩ (fun i a w q h => h)
    (fun i a s f t wr hi h => (less_tell w.heap.size a s f t wr h.1 (by have := h.2; omega)).mono fun e w' ⟨h1, h2, h3⟩ => ⟨h1, ⟨h2, by have := h.2; (try unfold sLess); (try split) <;> simp <;> omega⟩, h3⟩))
  clear ha hb
  go_wp2_with (go_at_call 32; refine HC.out.mono ?_; rintro e w1 ⟨rfl, ⟨i, ⟨⟨v, hv, hown⟩, hlen⟩⟩, hbel⟩; obtain ⟨C, c, rfl⟩ := own_slice hown; have hc1 := cell_of_one hv; have HO := Lib.hid hown; have HB := Lib.hid hbel; clear hv hown hbel hlen)
  go_ret
  exact ⟨C, c, rfl, HO.out, HB.out⟩

theorem inside_is (A B : Option Addr) (la lb : List ByteArray) (ca cb : Nat) (w : World) (ha : Rd w A la) (hb : Rd w B lb) (hca : la.length ≤ ca) (hcb : lb.length ≤ cb) (hN : la.length + lb.length < 2 ^ 42) (hca2 : ca ≤ maxLen) (hcb2 : cb ≤ maxLen) :
    Calls Try.prog 22 #[.slice A la.length ca, .slice B lb.length cb] w fun e w' => e = .returned (.bool (ins la lb)) ∧ Below w.heap.size w w' := by
  go_enter Try.func22, Try.ntmps22
  have HC := Lib.hid (walk36 sIn (fun _ a w' => Bit w.heap.size a w') w (w.alloc (.cells #[.bool true] 4)) la lb A B ca cb true ha hb hca hcb hN hca2 hcb2 ((Below.refl _ _).alloc (Nat.le_refl _) _) (bit_new w true) (fun i a w q h => h)
    (fun i a s f t wr hi h => inside_tell w.heap.size a s f t wr h))
  clear ha hb
  go_wp2_with (go_at_call 32; refine HC.out.mono ?_; rintro e w1 ⟨rfl, ⟨i, hv⟩, hbel⟩; have hc1 := cell_of_one hv; have HB := Lib.hid hbel; clear hv hbel)
  go_ret
  exact ⟨rfl, HB.out⟩
end Go.Proofs.Ytojnhgeffnjndaa.T
