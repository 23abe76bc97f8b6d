import Derived.Test.YtojnhgeffnjndaaProg
import Derived.Test.YtojnhgeffnjndaaShelf
import Derived.Test.YtojnhgeffnjndaaSb2
import Derived.Test.YtojnhgeffnjndaaSd
import Derived.WalkKit
import Derived.Outline
import Derived.WalkLawsBesides
import Derived.Deep.QuietTactic
import Derived.BigQuiet
import Derived.Lib.Hide
import Derived.Handy
import Derived.Deep.RegionHeld3
import Derived.Deep.DrawnRows
import Derived.Sort.OwnSorted
import Derived.Laws.AppendOwnNone
namespace Go.Proofs.Ytojnhgeffnjndaa.T
open Go Go.RowKit Mem Go.Great Go.Sort Go.Lib
set_option maxRecDepth 100000
set_option maxHeartbeats 8000000
set_option linter.unusedVariables false
set_option linter.unusedSimpArgs false

theorem own_lit0 (w : World) : (w.alloc (.cells #[] 9)).ownsRow w.heap.size 9 1 (.slice (some ⟨w.heap.size, 0, none⟩) 0 0) 0 [] := World.ownsRow_lit w #[] 0 (Nat.le_refl _) (Nat.zero_le _) rfl

theorem src_cell {w : World} {a : Addr} {l : List ByteArray} (h : Rd w (some a) l) {o : Obj} {j : Nat} {u : Value} (hj : (vs l)[j]? = some u) : (w.alloc o).cell? (a.add j) = some u := by
  rcases h with rfl | ⟨b, off, e, hc⟩
  · simp [vs] at hj
  · injection e with e; subst e
    have hlt : j < l.length := by have := (List.getElem?_eq_some_iff.1 hj).1; simpa [vs] using this
    have hx : u = .string l[j] := by simp [vs, hlt] at hj; exact hj.symm
    rw [hx]
    have := cell_alloc (hc j l[j] (List.getElem?_eq_getElem hlt)) o
    by_cases hz : j = 0
    · subst hz; simpa [Addr.add] using this
    · simpa [Addr.add, hz] using this
theorem lit_below {w w1 : World} {ob : Obj} (hg : (w.alloc ob).grownBy w1 (Value.slice (some ⟨w.heap.size, 0, none⟩) 0 0).ownBlock) : Below w.heap.size w w1 :=
  ((Below.refl _ _).alloc (Nat.le_refl _) ob).grown hg (by rw [alloc_size]; omega) (fun k hk => by simp [Value.ownBlock] at hk; omega)

/-- The loop of ref08.Union, out of a set that is the call's own. -/
theorem runion_is (A B : Option Addr) (la lb : List ByteArray) (ca cb : Nat) (w : World) (ha : Rd w A la) (hb : Rd w B lb) (hs : Srt la) (hA : A = none → ca = 0) (hn : la.length < 2 ^ 28) (hm : lb.length < 2 ^ 28) :
    Calls Try.prog 20 #[.slice A la.length ca, .slice B lb.length cb] w fun e w' => ∃ (m : List ByteArray) (C : Option Addr) (k : Nat), e = .returned (.slice C m.length k) ∧ RowKit.Hid (Srt m ∧ ∀ x, x ∈ m ↔ x ∈ la ∨ x ∈ lb) ∧ RowKit.Hid (Rd w' C m) ∧ Below w.heap.size w w' := by
  obtain ⟨i0, hi, hz0, hz1, hz2⟩ := info_parts info9
  have HA := Lib.hid ha; have HBb := Lib.hid hb; have HS0 := Lib.hid hs
  have HN := Lib.hid hA
  clear ha hb hs hA
  have HO0 := Lib.hid (own_lit0 w)
  go_enter Try.func20, Try.ntmps20
  cases A with
  | none =>
    have hc := HN.out rfl
    subst hc
    have hl : la = [] := by
      rcases HA.out with h | ⟨b, off, h, _⟩
      · exact h
      · cases h
    subst hl
    go_wp2_with (at_builtin; refine wpList_append_own_none rfl (.tmp 7) (.tmp 8) 22 rfl w.heap.size 9 i0 1 Try.underlying22 hi _ 0 [] rfl HO0.out rfl ?_)
    go_loopw [5, 6] (fun v i wr => ∃ (k n c0 : Nat) (C : Option Addr) (o : List ByteArray), v = .slice C n c0 ∧ k ≤ lb.length ∧ i = .int .i64 k ∧ n ≤ 0 + k ∧ RowKit.Hid (o.length = n) ∧ RowKit.Hid (Rd wr C o) ∧ RowKit.Hid (Below w.heap.size w wr) ∧ RowKit.Hid (Srt o ∧ ∀ x, x ∈ o ↔ x ∈ ([] : List ByteArray) ∨ x ∈ lb.take k)) (fun _ i _ => lb.length - (intOf i).toNat)
    case atStart => exact ⟨0, 0, 0, _, [], rfl, Nat.zero_le _, rfl, Nat.le_refl _, Lib.hid rfl, Lib.hid (.inl rfl), Lib.hid ((Below.refl _ _).alloc (Nat.le_refl _) _), Lib.hid ⟨List.Pairwise.nil, by simp⟩⟩
    case round =>
      obtain ⟨k, n, c0, C, o, rfl, hk, rfl, hnk, hol, HO, HB, HS⟩ := hrel
      by_cases hlt : k < lb.length
      · obtain ⟨b1, o1, rfl⟩ := HBb.out.addr (by omega)
        have h0 := HBb.out.cell hlt
        obtain ⟨x, hx⟩ : ∃ x, x = lb[k] := ⟨_, rfl⟩
        rw [← hx] at h0
        have HX := Lib.hid hx
        clear hx
        have hx0 := cell_below HB.out h0
        clear h0
        have hc := rwith_is C o c0 x wr HO.out HS.out.1 (by rw [hol.out]; omega)
        rw [hol.out] at hc
        have HC := Lib.hid hc
        clear hc
        go_wp2_with (go_at_call 26; refine HC.out.mono ?_; rintro e w1 ⟨r, D, kk, rfl, hr, hrd, hnn, hb1⟩; have HB1 := Lib.hid hb1; clear hb1)
        have hrl := hr.out.2.2
        have hol' := hol.out
        refine ⟨⟨k + 1, r.length, kk, D, r, rfl, by omega, by go_num, by omega, Lib.hid rfl, hrd, Lib.hid (HB.out.trans (HB1.out.mono HB.out.size)), Lib.hid ⟨hr.out.1, fun y => ?_⟩⟩, by simp [intOf]; omega⟩
        rw [hr.out.2.1, HS.out.2, List.take_succ_eq_append_getElem hlt, List.mem_append, List.mem_singleton, HX.out, or_assoc]
      · have hkl : k = lb.length := by omega
        have hon := hol.out
        subst hon
        have hset : Srt o ∧ ∀ x, x ∈ o ↔ x ∈ ([] : List ByteArray) ∨ x ∈ lb := ⟨HS.out.1, fun y => by rw [HS.out.2, hkl, List.take_length]⟩
        have HSET := Lib.hid hset
        clear hset
        go_wp2
        go_ret
        first | exact ⟨o, C, c0, rfl, HSET, HO, HB.out⟩ | exact ⟨o, C, ⟨c0, rfl⟩, HSET, HO, HB.out⟩ | exact ⟨o, C, ⟨c0, rfl⟩, Lib.hid (by simpa using HSET.out), HO, HB.out⟩ | exact ⟨o, C, c0, rfl, Lib.hid (by simpa using HSET.out), HO, HB.out⟩
  | some a =>
    go_wp2_with (at_builtin; refine wpList_append_own _ rfl (.tmp 7) (.tmp 8) 22 rfl w.heap.size 9 i0 _ 1 16 Try.underlying22 hi hz0 hz1 hz2 rfl (by decide) _ 0 [] rfl HO0.out a la.length ca (vs la) rfl (by simp [vs]) (by intro j u hj; exact src_cell HA.out hj) (vs_one la) (by unfold maxLen; omega) (by omega) (by rw [alloc_size]; omega) ?_; intro v1 w1 hown hg _; have HO1 := Lib.hid hown; have HB1 := Lib.hid (lit_below hg); obtain ⟨C1, k1, rfl⟩ := own_slice hown; clear hown hg)
    go_loopw [5, 6] (fun v i wr => ∃ (k n c0 : Nat) (C : Option Addr) (o : List ByteArray), v = .slice C n c0 ∧ k ≤ lb.length ∧ i = .int .i64 k ∧ n ≤ la.length + k ∧ RowKit.Hid (o.length = n) ∧ RowKit.Hid (Rd wr C o) ∧ RowKit.Hid (Below w.heap.size w wr) ∧ RowKit.Hid (Srt o ∧ ∀ x, x ∈ o ↔ x ∈ la ∨ x ∈ lb.take k)) (fun _ i _ => lb.length - (intOf i).toNat)
    case atStart => exact ⟨0, la.length, k1, C1, la, by simp, Nat.zero_le _, rfl, Nat.le_refl _, Lib.hid rfl, Lib.hid (own_rd (l := la) (c := k1) (by have h := HO1.out; rw [Nat.zero_add, List.nil_append] at h; exact h)).1, HB1, Lib.hid ⟨HS0.out, by simp⟩⟩
    case round =>
      obtain ⟨k, n, c0, C, o, rfl, hk, rfl, hnk, hol, HO, HB, HS⟩ := hrel
      by_cases hlt : k < lb.length
      · obtain ⟨b1, o1, rfl⟩ := HBb.out.addr (by omega)
        have h0 := HBb.out.cell hlt
        obtain ⟨x, hx⟩ : ∃ x, x = lb[k] := ⟨_, rfl⟩
        rw [← hx] at h0
        have HX := Lib.hid hx
        clear hx
        have hx0 := cell_below HB.out h0
        clear h0
        have hc := rwith_is C o c0 x wr HO.out HS.out.1 (by rw [hol.out]; omega)
        rw [hol.out] at hc
        have HC := Lib.hid hc
        clear hc
        go_wp2_with (go_at_call 26; refine HC.out.mono ?_; rintro e w1 ⟨r, D, kk, rfl, hr, hrd, hnn, hb1⟩; have HB1 := Lib.hid hb1; clear hb1)
        have hrl := hr.out.2.2
        have hol' := hol.out
        refine ⟨⟨k + 1, r.length, kk, D, r, rfl, by omega, by go_num, by omega, Lib.hid rfl, hrd, Lib.hid (HB.out.trans (HB1.out.mono HB.out.size)), Lib.hid ⟨hr.out.1, fun y => ?_⟩⟩, by simp [intOf]; omega⟩
        rw [hr.out.2.1, HS.out.2, List.take_succ_eq_append_getElem hlt, List.mem_append, List.mem_singleton, HX.out, or_assoc]
      · have hkl : k = lb.length := by omega
        have hon := hol.out
        subst hon
        have hset : Srt o ∧ ∀ x, x ∈ o ↔ x ∈ la ∨ x ∈ lb := ⟨HS.out.1, fun y => by rw [HS.out.2, hkl, List.take_length]⟩
        have HSET := Lib.hid hset
        clear hset
        go_wp2
        go_ret
        first | exact ⟨o, C, c0, rfl, HSET, HO, HB.out⟩ | exact ⟨o, C, ⟨c0, rfl⟩, HSET, HO, HB.out⟩ | exact ⟨o, C, ⟨c0, rfl⟩, Lib.hid (by simpa using HSET.out), HO, HB.out⟩ | exact ⟨o, C, c0, rfl, Lib.hid (by simpa using HSET.out), HO, HB.out⟩
end Go.Proofs.Ytojnhgeffnjndaa.T
