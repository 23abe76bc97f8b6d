import Derived.Test.YtojnhgeffnjndaaProg
import Derived.Test.YtojnhgeffnjndaaMem
import Derived.WalkKit
import Derived.Outline
import Derived.WalkLawsBesides
import Derived.Deep.QuietTactic
import Derived.BigQuiet
import Derived.Lib.Hide
import Derived.Handy
import Derived.Deep.RegionHeld3
import Derived.Deep.DrawnRows
import Derived.Sort.Walk0
namespace Go.Proofs.Ytojnhgeffnjndaa.T
open Go Go.RowKit Mem
set_option maxRecDepth 100000
set_option maxHeartbeats 8000000
set_option linter.unusedVariables false
set_option linter.unusedSimpArgs false

/-- From address A on lie the strings l. -/
def Rd (w : World) (A : Option Addr) (l : List ByteArray) : Prop := l = [] ∨ ∃ b off, A = some ⟨b, off, none⟩ ∧ ∀ i x, l[i]? = some x → w.cell? ⟨b, off + i, none⟩ = some (.string x)
theorem Rd.below {w w' : World} {A : Option Addr} {l : List ByteArray} (h : Rd w A l) (hb : Below w.heap.size w w') : Rd w' A l := by
  rcases h with h | ⟨b, off, rfl, h⟩
  · exact .inl h
  · exact .inr ⟨b, off, rfl, fun i x hx => cell_below hb (h i x hx)⟩
theorem Rd.head {w : World} {A : Option Addr} {x : ByteArray} {l : List ByteArray} (h : Rd w A (x :: l)) : ∃ b off, A = some ⟨b, off, none⟩ ∧ w.cell? ⟨b, off, none⟩ = some (.string x) ∧ Rd w (some ⟨b, off + 1, none⟩) l := by
  rcases h with h | ⟨b, off, rfl, h⟩
  · cases h
  · exact ⟨b, off, rfl, by simpa using h 0 x rfl, .inr ⟨b, off + 1, rfl, fun i y hy => by have := h (i + 1) y (by simpa using hy); rw [show off + 1 + i = off + (i + 1) by omega]; exact this⟩⟩
theorem Rd.cell {w : World} {b off : Nat} {l : List ByteArray} {k : Nat} (h : Rd w (some ⟨b, off, none⟩) l) (hk : k < l.length) : w.cell? ⟨b, off + k, none⟩ = some (.string l[k]) := by
  rcases h with rfl | ⟨b', off', e, h⟩
  · simp at hk
  · injection e with e; injection e with e1 e2; subst e1; subst e2
    exact h k _ (List.getElem?_eq_getElem hk)
theorem Rd.addr {w : World} {A : Option Addr} {l : List ByteArray} (h : Rd w A l) (hl : 0 < l.length) : ∃ b off, A = some ⟨b, off, none⟩ := by
  rcases h with rfl | ⟨b, off, e, h⟩
  · simp at hl
  · exact ⟨b, off, e⟩
theorem Rd.tail {w : World} {b off : Nat} {c : Nat} {x : ByteArray} {l : List ByteArray} (h : Rd w (some ⟨b, off, none⟩) (x :: l)) (hc : l.length + 1 ≤ c) :
    Rd w (some (if c = 1 then ⟨b, off, none⟩ else ⟨b, off + 1, none⟩)) l := by
  by_cases h1 : c = 1
  · left; cases l with
    | nil => rfl
    | cons => simp at hc; omega
  · rw [if_neg h1]
    obtain ⟨b', off', e, _, ht⟩ := h.head
    injection e with e; injection e with e1 e2; subst e1; subst e2
    exact ht

theorem ba_inj {a b : ByteArray} (h : a.toList = b.toList) : a = b := by
  rw [ByteArray.toList_eq, ByteArray.toList_eq] at h
  apply ByteArray.ext; exact Array.toList_inj.1 h
theorem _root_.Go.RowKit.Below.trans_drewN {B : Nat} {w w' : World} (h : Below B w w') (q : Nat) : Below B w (w'.drewN q) := below_drewN h q

theorem eq_of_same {la lb : List ByteArray} (hl : la.length = lb.length) (h : ∀ j (h1 : j < la.length) (h2 : j < lb.length), la[j] = lb[j]) : la = lb := List.ext_getElem hl h

/-- ref06.Same: are two lists the same? -/
theorem same_is (A B : Option Addr) (la lb : List ByteArray) (ca cb : Nat) (w : World) (ha : Rd w A la) (hb : Rd w B lb) (hn : la.length < 2 ^ 62) (hm : lb.length < 2 ^ 62) :
    Calls Try.prog 15 #[.slice A la.length ca, .slice B lb.length cb] w fun e w' => e = .returned (.bool (decide (la = lb))) ∧ Below w.heap.size w w' := by
  go_enter Try.func15, Try.ntmps15
  have HA := Lib.hid ha; have HB := Lib.hid hb
  clear ha hb
  by_cases hl : la.length = lb.length
  · go_wp2_with fail
    go_loopw [5] (fun x wr => ∃ k : Nat, k ≤ la.length ∧ x = .int .i64 k ∧ Below w.heap.size w wr ∧ (∀ j (h1 : j < la.length) (h2 : j < lb.length), j < k → la[j] = lb[j])) (fun x _ => la.length - (intOf x).toNat)
    case atStart => exact ⟨0, Nat.zero_le _, rfl, Below.refl _ _, fun j _ _ h => by omega⟩
    case round =>
      obtain ⟨k, hk, rfl, hbw, hsame⟩ := hrel
      by_cases hlt : k < la.length
      · obtain ⟨b1, o1, rfl⟩ := HA.out.addr (by omega)
        obtain ⟨b2, o2, rfl⟩ := HB.out.addr (by omega)
        have g1 := cell_below hbw (HA.out.cell hlt)
        have g2 := cell_below hbw (HB.out.cell (k := k) (by omega))
        obtain ⟨x, hx⟩ : ∃ x, x = la[k] := ⟨_, rfl⟩
        obtain ⟨y, hy⟩ : ∃ y, y = lb[k]'(by omega) := ⟨_, rfl⟩
        rw [← hx] at g1
        rw [← hy] at g2
        have HX := Lib.hid hx; have HY := Lib.hid hy; have HBW := Lib.hid hbw; have HS := Lib.hid hsame
        clear hx hy hbw hsame
        go_wp2
        go_quiet (fail)
        go_wp2
        · have hne : x ≠ y := fun e => by subst e; simp at *
          go_ret
          refine ⟨ret_bool (Eq.symm (decide_eq_false fun e => hne ?_)), HBW.out.trans_drewN _⟩
          rw [HX.out, HY.out]; simp [e]
        · have he : x = y := ba_inj (by simpa using ‹(!x.toList == y.toList) = false›)
          refine ⟨⟨k + 1, by omega, by go_num, HBW.out.trans_drewN _, fun j h1 h2 hj => ?_⟩, by simp [intOf]; omega⟩
          rcases Nat.lt_succ_iff_lt_or_eq.1 hj with h | rfl
          · exact HS.out j h1 h2 h
          · rw [← HX.out, ← HY.out]; exact he
      · have e : la = lb := eq_of_same hl fun j h1 h2 => hsame j h1 h2 (by omega)
        have HBW := Lib.hid hbw
        clear hsame hbw
        go_wp2
        go_ret
        exact ⟨by simp [e], HBW.out⟩
  · go_wp2
    go_ret
    exact ⟨by simp [show la ≠ lb from fun e => hl (by rw [e])], Below.refl _ _⟩
/-- A set: its texts rise. -/
def Srt (l : List ByteArray) : Prop := l.Pairwise fun x y => x.toList < y.toList
theorem lt_trans' {a b c : List UInt8} (h : a < b) (h' : b < c) : a < c := List.lt_trans h h'
theorem srt_of {l : List ByteArray} (h : ∀ j (h1 : j < l.length) (h2 : j + 1 < l.length), (l[j]'h1).toList < (l[j + 1]'h2).toList) : Srt l := by
  induction l with
  | nil => exact List.Pairwise.nil
  | cons x l ih =>
    have hs : Srt l := ih fun j h1 h2 => by have := h (j + 1) (by simp; omega) (by simp; omega); simpa using this
    refine List.Pairwise.cons (fun y hy => ?_) hs
    cases l with
    | nil => cases hy
    | cons z l =>
      have hxz : x.toList < z.toList := by have := h 0 (by simp) (by simp); simpa using this
      rcases List.mem_cons.1 hy with rfl | hy
      · exact hxz
      · exact lt_trans' hxz (List.rel_of_pairwise_cons hs hy)
theorem srt_at {l : List ByteArray} (hs : Srt l) (j : Nat) (h1 : j < l.length) (h2 : j + 1 < l.length) : (l[j]'h1).toList < (l[j + 1]'h2).toList :=
  (List.pairwise_iff_getElem.1 hs) j (j + 1) h1 h2 (by omega)

theorem right13_is (A : Option Addr) (l : List ByteArray) (c : Nat) (w : World) (ha : Rd w A l) (hn : l.length < 2 ^ 62) :
    Calls Try.prog 13 #[.slice A l.length c] w fun e w' => ∃ r : Bool, e = .returned (.bool r) ∧ (r = true ↔ Srt l) ∧ Below w.heap.size w w' := by
  go_enter Try.func13, Try.ntmps13
  have HA := Lib.hid ha
  clear ha
  go_wp2_with fail
  go_loopw [3] (fun x wr => ∃ k : Nat, 1 ≤ k ∧ (k ≤ l.length ∨ k = 1) ∧ x = .int .i64 k ∧ Below w.heap.size w wr ∧ (∀ j (h1 : j < l.length) (h2 : j + 1 < l.length), j + 1 < k → (l[j]'h1).toList < (l[j + 1]'h2).toList)) (fun x _ => l.length - (intOf x).toNat)
  case atStart => exact ⟨1, Nat.le_refl _, .inr rfl, rfl, Below.refl _ _, fun j _ _ h => by omega⟩
  case round =>
    obtain ⟨k, hk1, hk, rfl, hbw, hsame⟩ := hrel
    by_cases hlt : k < l.length
    · obtain ⟨k, rfl⟩ : ∃ m, k = m + 1 := ⟨k - 1, by omega⟩
      obtain ⟨b1, o1, rfl⟩ := HA.out.addr (by omega)
      have g1 := cell_below hbw (HA.out.cell (k := k) (by omega))
      have g2 := cell_below hbw (HA.out.cell (k := k + 1) hlt)
      obtain ⟨x, hx⟩ : ∃ x, x = l[k]'(by omega) := ⟨_, rfl⟩
      obtain ⟨y, hy⟩ : ∃ y, y = l[k + 1] := ⟨_, rfl⟩
      rw [← hx] at g1
      rw [← hy] at g2
      have HX := Lib.hid hx; have HY := Lib.hid hy; have HBW := Lib.hid hbw; have HS := Lib.hid hsame
      clear hx hy hbw hsame
      go_wp2
      go_quiet (fail)
      go_wp2
      · have hne : ¬ x.toList < y.toList := fun e => by
          have h1 : (!Op.bytesLess x.toList y.toList) = true := by assumption
          rw [bytesLess_eq] at h1; simp [e] at h1
        go_ret
        refine ⟨false, rfl, ⟨fun h => (by cases h), fun h => absurd (srt_at h k (by omega) hlt) ?_⟩, HBW.out.trans_drewN _⟩
        rw [← HX.out, ← HY.out]; exact hne
      · have hlt' : x.toList < y.toList := by
          have h1 : (!Op.bytesLess x.toList y.toList) = false := by assumption
          rw [bytesLess_eq] at h1; simpa using h1
        refine ⟨⟨k + 2, by omega, by omega, by go_num, HBW.out.trans_drewN _, fun j h1 h2 hj => ?_⟩, by simp [intOf]; omega⟩
        rcases Nat.lt_succ_iff_lt_or_eq.1 hj with h | h
        · exact HS.out j h1 h2 h
        · obtain rfl : j = k := by omega
          rw [← HX.out, ← HY.out]; exact hlt'
    · have e : Srt l := srt_of fun j h1 h2 => hsame j h1 h2 (by omega)
      have HBW := Lib.hid hbw; have HE := Lib.hid e
      clear hsame hbw e
      go_wp2
      go_ret
      exact ⟨true, rfl, ⟨fun _ => HE.out, fun _ => rfl⟩, HBW.out⟩

theorem right14_is (A : Option Addr) (l : List ByteArray) (c : Nat) (w : World) (ha : Rd w A l) (hn : l.length < 2 ^ 62) :
    Calls Try.prog 14 #[.slice A l.length c] w fun e w' => ∃ r : Bool, e = .returned (.bool r) ∧ (r = true ↔ Srt l) ∧ Below w.heap.size w w' := by
  go_enter Try.func14, Try.ntmps14
  have HA := Lib.hid ha
  clear ha
  go_wp2_with fail
  go_loopw [3] (fun x wr => ∃ k : Nat, 1 ≤ k ∧ (k ≤ l.length ∨ k = 1) ∧ x = .int .i64 k ∧ Below w.heap.size w wr ∧ (∀ j (h1 : j < l.length) (h2 : j + 1 < l.length), j + 1 < k → (l[j]'h1).toList < (l[j + 1]'h2).toList)) (fun x _ => l.length - (intOf x).toNat)
  case atStart => exact ⟨1, Nat.le_refl _, .inr rfl, rfl, Below.refl _ _, fun j _ _ h => by omega⟩
  case round =>
    obtain ⟨k, hk1, hk, rfl, hbw, hsame⟩ := hrel
    by_cases hlt : k < l.length
    · obtain ⟨k, rfl⟩ : ∃ m, k = m + 1 := ⟨k - 1, by omega⟩
      obtain ⟨b1, o1, rfl⟩ := HA.out.addr (by omega)
      have g1 := cell_below hbw (HA.out.cell (k := k) (by omega))
      have g2 := cell_below hbw (HA.out.cell (k := k + 1) hlt)
      obtain ⟨x, hx⟩ : ∃ x, x = l[k]'(by omega) := ⟨_, rfl⟩
      obtain ⟨y, hy⟩ : ∃ y, y = l[k + 1] := ⟨_, rfl⟩
      rw [← hx] at g1
      rw [← hy] at g2
      have HX := Lib.hid hx; have HY := Lib.hid hy; have HBW := Lib.hid hbw; have HS := Lib.hid hsame
      clear hx hy hbw hsame
      go_wp2
      go_quiet (fail)
      go_wp2
      · have hne : ¬ x.toList < y.toList := fun e => by
          have h1 : (!Op.bytesLess x.toList y.toList) = true := by assumption
          rw [bytesLess_eq] at h1; simp [e] at h1
        go_ret
        refine ⟨false, rfl, ⟨fun h => (by cases h), fun h => absurd (srt_at h k (by omega) hlt) ?_⟩, HBW.out.trans_drewN _⟩
        rw [← HX.out, ← HY.out]; exact hne
      · have hlt' : x.toList < y.toList := by
          have h1 : (!Op.bytesLess x.toList y.toList) = false := by assumption
          rw [bytesLess_eq] at h1; simpa using h1
        refine ⟨⟨k + 2, by omega, by omega, by go_num, HBW.out.trans_drewN _, fun j h1 h2 hj => ?_⟩, by simp [intOf]; omega⟩
        rcases Nat.lt_succ_iff_lt_or_eq.1 hj with h | h
        · exact HS.out j h1 h2 h
        · obtain rfl : j = k := by omega
          rw [← HX.out, ← HY.out]; exact hlt'
    · have e : Srt l := srt_of fun j h1 h2 => hsame j h1 h2 (by omega)
      have HBW := Lib.hid hbw; have HE := Lib.hid e
      clear hsame hbw e
      go_wp2
      go_ret
      exact ⟨true, rfl, ⟨fun _ => HE.out, fun _ => rfl⟩, HBW.out⟩

/-- ref08.Has -/
theorem rhas_is (A : Option Addr) (l : List ByteArray) (c : Nat) (s : ByteArray) (w : World) (ha : Rd w A l) (hn : l.length < 2 ^ 62) :
    Calls Try.prog 24 #[.slice A l.length c, .string s] w fun e w' => ∃ r : Bool, e = .returned (.bool r) ∧ (r = true ↔ s ∈ l) ∧ Below w.heap.size w w' := by
  go_enter Try.func24, Try.ntmps24
  have HA := Lib.hid ha
  clear ha
  go_wp2_with fail
  go_loopw [5] (fun x wr => ∃ k : Nat, k ≤ l.length ∧ x = .int .i64 k ∧ Below w.heap.size w wr ∧ (∀ j (h1 : j < l.length), j < k → l[j]'h1 ≠ s)) (fun x _ => l.length - (intOf x).toNat)
  case atStart => exact ⟨0, Nat.zero_le _, rfl, Below.refl _ _, fun j _ h => by omega⟩
  case round =>
    obtain ⟨k, hk, rfl, hbw, hsame⟩ := hrel
    by_cases hlt : k < l.length
    · obtain ⟨b1, o1, rfl⟩ := HA.out.addr (by omega)
      have g1 := cell_below hbw (HA.out.cell hlt)
      obtain ⟨x, hx⟩ : ∃ x, x = l[k] := ⟨_, rfl⟩
      rw [← hx] at g1
      have HX := Lib.hid hx; have HBW := Lib.hid hbw; have HS := Lib.hid hsame
      clear hx hbw hsame
      go_wp2
      · have he : x = s := ba_inj (by have h1 : (x.toList == s.toList) = true := by assumption
                                      simpa using h1)
        go_ret
        exact ⟨true, rfl, ⟨fun _ => by rw [← he, HX.out]; exact List.getElem_mem _, fun _ => rfl⟩, HBW.out⟩
      · have hne : x ≠ s := fun e => by
          have h1 : (x.toList == s.toList) = false := by assumption
          simp [e] at h1
        refine ⟨⟨k + 1, by omega, by go_num, HBW.out, fun j h1 hj => ?_⟩, by simp [intOf]; omega⟩
        rcases Nat.lt_succ_iff_lt_or_eq.1 hj with h | rfl
        · exact HS.out j h1 h
        · rw [← HX.out]; exact hne
    · have e : s ∉ l := fun h => by
        obtain ⟨j, h1, e⟩ := List.getElem_of_mem h
        exact hsame j h1 (by omega) e
      have HBW := Lib.hid hbw; have HE := Lib.hid e
      clear hsame hbw e
      go_wp2
      go_ret
      exact ⟨false, rfl, ⟨fun h => (by cases h), fun h => absurd h HE.out⟩, HBW.out⟩
end Go.Proofs.Ytojnhgeffnjndaa.T
