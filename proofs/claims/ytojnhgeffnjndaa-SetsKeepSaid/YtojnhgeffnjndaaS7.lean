import Derived.Test.YtojnhgeffnjndaaProg
import Derived.Test.YtojnhgeffnjndaaShelf
import Derived.Test.YtojnhgeffnjndaaS6
import Derived.WalkKit
import Derived.Outline
import Derived.WalkLawsBesides
import Derived.Deep.QuietTactic
import Derived.BigQuiet
import Derived.Lib.Hide
import Derived.Handy
import Derived.Deep.RegionHeld3
import Derived.Deep.DrawnRows
import Derived.Sort.OwnSorted
namespace Go.Proofs.Ytojnhgeffnjndaa.T
open Go Go.RowKit Mem Go.Great Go.Sort Go.Lib
set_option maxRecDepth 100000
set_option maxHeartbeats 8000000
set_option linter.unusedVariables false
set_option linter.unusedSimpArgs false

abbrev sa : ByteArray := { data := #[97] }
abbrev sb : ByteArray := { data := #[98] }
abbrev sc : ByteArray := { data := #[99] }
theorem ab : sa.toList < sb.toList := by rw [ByteArray.toList_eq, ByteArray.toList_eq]; decide
theorem bc : sb.toList < sc.toList := by rw [ByteArray.toList_eq, ByteArray.toList_eq]; decide
theorem ac : sa.toList < sc.toList := by rw [ByteArray.toList_eq, ByteArray.toList_eq]; decide
theorem srt1 (x : ByteArray) : Srt [x] := List.pairwise_singleton _ _
theorem srt2 {x y : ByteArray} (h : x.toList < y.toList) : Srt [x, y] := List.pairwise_cons.2 ⟨by simpa using h, srt1 y⟩
theorem srt3 {x y z : ByteArray} (h : x.toList < y.toList) (h' : y.toList < z.toList) : Srt [x, y, z] := List.pairwise_cons.2 ⟨by simpa using ⟨h, ltt h h'⟩, srt2 h'⟩
theorem made_ab {m : List ByteArray} (h : MadeOf [sb, sa, sb] m) : m = [sa, sb] := srt_ext h.1 (srt2 ab) fun x => (h.2.1 x).trans (by simp; grind)
theorem uni_abc : uni [sa, sc] [sb, sc] = [sa, sb, sc] := srt_ext (uni_srt (srt2 ac) (srt2 bc)) (srt3 ab bc) fun x => uni_mem.trans (by simp; grind)
theorem les_a : les [sa, sc] [sc] = [sa] := srt_ext (les_srt (srt2 ac) (srt1 sc)) (srt1 sa) fun x => (les_mem (srt2 ac) (srt1 sc)).trans (by
  have : sa ≠ sc := fun e => lti _ (by have := ac; rw [e] at this; exact this)
  simp; grind)

theorem same_eq (A B : Option Addr) (l : List ByteArray) (ca cb : Nat) (w : World) (ha : Rd w A l) (hb : Rd w B l) (hn : l.length < 2 ^ 62) :
    Calls Try.prog 15 #[.slice A l.length ca, .slice B l.length cb] w fun e w' => e = .returned (.bool true) ∧ Below w.heap.size w w' :=
  (same_is A B l l ca cb w ha hb hn hn).mono fun e w' h => by simpa using h
theorem has_eq (A : Option Addr) (l : List ByteArray) (c : Nat) (s : ByteArray) (w : World) (ha : Rd w A l) (hs : Srt l) (hn : l.length < 2 ^ 42) (hm : s ∈ l) :
    Calls Try.prog 23 #[.slice A l.length c, .string s] w fun e w' => e = .returned (.bool true) ∧ Below w.heap.size w w' :=
  (has_is A l c s w ha hs hn).mono fun e w' ⟨r, h, hr, hb⟩ => ⟨by rw [h, hr.2 hm], hb⟩
/-- What a call of the second family leaves, its row read. -/
theorem union_rd (A B : Option Addr) (la lb : List ByteArray) (ca cb : Nat) (w : World) (ha : Rd w A la) (hb : Rd w B lb) (hca : la.length ≤ ca) (hcb : lb.length ≤ cb) (hN : la.length + lb.length < 2 ^ 42) (hca2 : ca ≤ maxLen) (hcb2 : cb ≤ maxLen) (l : List ByteArray) (hl : uni la lb = l) :
    Calls Try.prog 17 #[.slice A la.length ca, .slice B lb.length cb] w fun e w' => ∃ C c, e = .returned (.slice C l.length c) ∧ RowKit.Hid (Rd w' C l) ∧ l.length ≤ c ∧ c ≤ maxLen ∧ Below w.heap.size w w' := by
  subst hl
  refine (union_is A B la lb ca cb w ha hb hca hcb hN hca2 hcb2).mono ?_
  rintro e w1 ⟨C, c, rfl, hown, hb⟩
  obtain ⟨h1, _, h2, h3⟩ := own_rd hown
  exact ⟨C, c, rfl, Lib.hid h1, h2, h3, hb⟩
theorem meet_rd (A B : Option Addr) (la lb : List ByteArray) (ca cb : Nat) (w : World) (ha : Rd w A la) (hb : Rd w B lb) (hca : la.length ≤ ca) (hcb : lb.length ≤ cb) (hN : la.length + lb.length < 2 ^ 42) (hca2 : ca ≤ maxLen) (hcb2 : cb ≤ maxLen) (l : List ByteArray) (hl : mee la lb = l) :
    Calls Try.prog 18 #[.slice A la.length ca, .slice B lb.length cb] w fun e w' => ∃ C c, e = .returned (.slice C l.length c) ∧ RowKit.Hid (Rd w' C l) ∧ l.length ≤ c ∧ c ≤ maxLen ∧ Below w.heap.size w w' := by
  subst hl
  refine (meet_is A B la lb ca cb w ha hb hca hcb hN hca2 hcb2).mono ?_
  rintro e w1 ⟨C, c, rfl, hown, hb⟩
  obtain ⟨h1, _, h2, h3⟩ := own_rd hown
  exact ⟨C, c, rfl, Lib.hid h1, h2, h3, hb⟩
theorem less_rd (A B : Option Addr) (la lb : List ByteArray) (ca cb : Nat) (w : World) (ha : Rd w A la) (hb : Rd w B lb) (hca : la.length ≤ ca) (hcb : lb.length ≤ cb) (hN : la.length + lb.length < 2 ^ 42) (hca2 : ca ≤ maxLen) (hcb2 : cb ≤ maxLen) (l : List ByteArray) (hl : les la lb = l) :
    Calls Try.prog 21 #[.slice A la.length ca, .slice B lb.length cb] w fun e w' => ∃ C c, e = .returned (.slice C l.length c) ∧ RowKit.Hid (Rd w' C l) ∧ l.length ≤ c ∧ c ≤ maxLen ∧ Below w.heap.size w w' := by
  subst hl
  refine (less_is A B la lb ca cb w ha hb hca hcb hN hca2 hcb2).mono ?_
  rintro e w1 ⟨C, c, rfl, hown, hb⟩
  obtain ⟨h1, _, h2, h3⟩ := own_rd hown
  exact ⟨C, c, rfl, Lib.hid h1, h2, h3, hb⟩

theorem rd_lit2 (w : World) (o : Obj) (l : List ByteArray) : Rd ((w.alloc o).alloc (.cells (vs l).toArray 9)) (some ⟨w.heap.size + 1, 0, none⟩) l := by
  have := rd_lit (w.alloc o) l
  rw [alloc_size] at this
  exact this
abbrev lit (l : List ByteArray) : Obj := .cells (vs l).toArray 9
theorem union_lit (w : World) : Calls Try.prog 17 #[.slice (some ⟨w.heap.size, 0, none⟩) 2 2, .slice (some ⟨w.heap.size + 1, 0, none⟩) 2 2] ((w.alloc (.cells #[.string sa, .string sc] 9)).alloc (.cells #[.string sb, .string sc] 9)) fun e w' =>
    ∃ C c, e = .returned (.slice C 3 c) ∧ RowKit.Hid (Rd w' C [sa, sb, sc]) ∧ Below (w.heap.size + 2) ((w.alloc (.cells #[.string sa, .string sc] 9)).alloc (.cells #[.string sb, .string sc] 9)) w' := by
  have := union_rd (some ⟨w.heap.size, 0, none⟩) (some ⟨w.heap.size + 1, 0, none⟩) [sa, sc] [sb, sc] 2 2 ((w.alloc (lit [sa, sc])).alloc (lit [sb, sc])) ((rd_lit w _).alloc _) (rd_lit2 w _ _) (by decide) (by decide) (by decide) (by decide) (by decide) _ uni_abc
  refine this.mono ?_
  rintro e w1 ⟨C, c, rfl, h1, h2, h3, h4⟩
  rw [alloc_size, alloc_size] at h4
  exact ⟨C, c, rfl, h1, h4⟩
theorem less_lit (w : World) : Calls Try.prog 21 #[.slice (some ⟨w.heap.size, 0, none⟩) 2 2, .slice (some ⟨w.heap.size + 1, 0, none⟩) 1 1] ((w.alloc (.cells #[.string sa, .string sc] 9)).alloc (.cells #[.string sc] 9)) fun e w' =>
    ∃ C c, e = .returned (.slice C 1 c) ∧ RowKit.Hid (Rd w' C [sa]) ∧ Below (w.heap.size + 2) ((w.alloc (.cells #[.string sa, .string sc] 9)).alloc (.cells #[.string sc] 9)) w' := by
  have := less_rd (some ⟨w.heap.size, 0, none⟩) (some ⟨w.heap.size + 1, 0, none⟩) [sa, sc] [sc] 2 1 ((w.alloc (lit [sa, sc])).alloc (lit [sc])) ((rd_lit w _).alloc _) (rd_lit2 w _ _) (by decide) (by decide) (by decide) (by decide) (by decide) _ les_a
  refine this.mono ?_
  rintro e w1 ⟨C, c, rfl, h1, h2, h3, h4⟩
  rw [alloc_size, alloc_size] at h4
  exact ⟨C, c, rfl, h1, h4⟩

theorem same_ab (C : Option Addr) (k : Nat) (w : World) (h : RowKit.Hid (Rd w C [sa, sb])) : Calls Try.prog 15 #[.slice C 2 k, .slice (some ⟨w.heap.size, 0, none⟩) 2 2] (w.alloc (.cells #[.string sa, .string sb] 9)) fun e w' => e = .returned (.bool true) ∧ Below (w.heap.size + 1) (w.alloc (.cells #[.string sa, .string sb] 9)) w' := by
  have := same_eq C (some ⟨w.heap.size, 0, none⟩) [sa, sb] k 2 (w.alloc (lit [sa, sb])) (h.out.alloc _) (rd_lit w _) (by decide)
  rw [alloc_size] at this
  exact this
theorem same_abc (C : Option Addr) (k : Nat) (w : World) (h : RowKit.Hid (Rd w C [sa, sb, sc])) : Calls Try.prog 15 #[.slice C 3 k, .slice (some ⟨w.heap.size, 0, none⟩) 3 3] (w.alloc (.cells #[.string sa, .string sb, .string sc] 9)) fun e w' => e = .returned (.bool true) ∧ Below (w.heap.size + 1) (w.alloc (.cells #[.string sa, .string sb, .string sc] 9)) w' := by
  have := same_eq C (some ⟨w.heap.size, 0, none⟩) [sa, sb, sc] k 3 (w.alloc (lit [sa, sb, sc])) (h.out.alloc _) (rd_lit w _) (by decide)
  rw [alloc_size] at this
  exact this
theorem same_a (C : Option Addr) (k : Nat) (w : World) (h : RowKit.Hid (Rd w C [sa])) : Calls Try.prog 15 #[.slice C 1 k, .slice (some ⟨w.heap.size, 0, none⟩) 1 1] (w.alloc (.cells #[.string sa] 9)) fun e w' => e = .returned (.bool true) ∧ Below (w.heap.size + 1) (w.alloc (.cells #[.string sa] 9)) w' := by
  have := same_eq C (some ⟨w.heap.size, 0, none⟩) [sa] k 1 (w.alloc (lit [sa])) (h.out.alloc _) (rd_lit w _) (by decide)
  rw [alloc_size] at this
  exact this
theorem has_lit (w : World) : Calls Try.prog 23 #[.slice (some ⟨w.heap.size, 0, none⟩) 1 1, .string sa] (w.alloc (.cells #[.string sa] 9)) fun e w' => e = .returned (.bool true) ∧ Below (w.heap.size + 1) (w.alloc (.cells #[.string sa] 9)) w' := by
  have := has_eq (some ⟨w.heap.size, 0, none⟩) [sa] 1 sa (w.alloc (lit [sa])) (rd_lit w _) (srt1 _) (by decide) (by simp)
  rw [alloc_size] at this
  exact this
theorem make_lit (w : World) : Calls Try.prog 12 #[.slice (some ⟨w.heap.size, 0, none⟩) 3 3] (w.alloc (.cells #[.string sb, .string sa, .string sb] 9)) fun e w' => ∃ C k, e = .returned (.slice C 2 k) ∧ RowKit.Hid (Rd w' C [sa, sb]) ∧ Below (w.heap.size + 1) (w.alloc (.cells #[.string sb, .string sa, .string sb] 9)) w' := by
  have := make_is (some ⟨w.heap.size, 0, none⟩) [sb, sa, sb] 3 (w.alloc (lit [sb, sa, sb])) (rd_lit w _) (by decide)
  rw [alloc_size] at this
  refine this.mono ?_
  rintro e w1 ⟨m, C, k, rfl, hm, hrd, _, _, hb⟩
  obtain rfl := made_ab hm.out
  exact ⟨C, k, rfl, hrd, hb⟩

theorem alive_is (w : World) : Calls Try.prog 11 #[] w fun e w' => e = .returned (.bool true) ∧ Below w.heap.size w w' := by
  go_enter Try.func11, Try.ntmps11
  go_wp2_with (first
    | (go_at_call 12; with_reducible refine (make_lit w).mono ?_; rintro e w1 ⟨C, k, rfl, hrd1, hb1⟩; have hz1 : w.heap.size ≤ w1.heap.size := (by have := hb1.size; (try simp at this); omega))
    | (go_at_call 15; with_reducible refine (same_ab C k w1 hrd1).mono ?_; rintro e w2 ⟨rfl, hb2⟩; have hz2 : w.heap.size ≤ w2.heap.size := (by have := hb2.size; (try simp at this); omega))
    | (go_at_call 17; with_reducible refine (union_lit w2).mono ?_; rintro e w3 ⟨C3, k3, rfl, hrd3, hb3⟩; have hz3 : w.heap.size ≤ w3.heap.size := (by have := hb3.size; (try simp at this); omega))
    | (go_at_call 15; with_reducible refine (same_abc C3 k3 w3 hrd3).mono ?_; rintro e w4 ⟨rfl, hb4⟩; have hz4 : w.heap.size ≤ w4.heap.size := (by have := hb4.size; (try simp at this); omega))
    | (go_at_call 23; with_reducible refine (has_lit w4).mono ?_; rintro e w5 ⟨rfl, hb5⟩; have hz5 : w.heap.size ≤ w5.heap.size := (by have := hb5.size; (try simp at this); omega))
    | (go_at_call 21; with_reducible refine (less_lit w5).mono ?_; rintro e w6 ⟨C6, k6, rfl, hrd6, hb6⟩; have hz6 : w.heap.size ≤ w6.heap.size := (by have := hb6.size; (try simp at this); omega))
    | (go_at_call 15; with_reducible refine (same_a C6 k6 w6 hrd6).mono ?_; rintro e w7 ⟨rfl, hb7⟩; have hz7 : w.heap.size ≤ w7.heap.size := (by have := hb7.size; (try simp at this); omega)))
  go_ret
  exact ⟨rfl, (by ((repeat (first | exact Below.refl _ _ | (refine Below.drew ?_) | (refine Go.below_drewN ?_ _) | (refine Below.alloc ?_ (by first | (simp; done) | omega | (simp; omega)) _) | (refine Below.setCell ?_ (by first | (simp; done) | omega | (simp; omega)) _) | (refine Below.trans ?_ (Below.mono (by assumption) (by first | (simp; done) | omega | (simp; omega)))))); done))⟩
end Go.Proofs.Ytojnhgeffnjndaa.T
