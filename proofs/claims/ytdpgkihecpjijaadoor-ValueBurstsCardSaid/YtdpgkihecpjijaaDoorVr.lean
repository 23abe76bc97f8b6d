import Derived.Test.YtdpgkihecpjijaaDoorVk
import Derived.Test.YtdpgkihecpjijaaDoorVl
import Derived.Test.YtdpgkihecpjijaaDoorVm
import Derived.Test.YtdpgkihecpjijaaDoorVn
import Derived.Test.YtdpgkihecpjijaaDoorVo
import Derived.Test.YtdpgkihecpjijaaDoorVp
import Derived.Test.YtdpgkihecpjijaaDoorVq
import Derived.WalkKit
import Derived.Outline
import Derived.WalkLawsBesides
import Derived.Deep.QuietTactic
import Derived.BigQuiet
import Derived.Lib.Hide
import Derived.Handy
import Derived.Deep.RegionHeld3
import Derived.Deep.DrawnRows
import Derived.KernelRfl
import Derived.Sort.Walk0
import Derived.Great.Walk
import Derived.Test.YtdpgkihecpjijaaDoorOwn
namespace Go.Proofs.YtdpgkihecpjijaaDoor.T
open Go Go.RowKit Mem Own
set_option maxRecDepth 100000
set_option maxHeartbeats 1000000
set_option linter.unusedVariables false
set_option linter.unusedSimpArgs false

def rdPs (s : ByteArray) (bad : Bool) : Nat → List (ByteArray × ByteArray) × ByteArray × Bool
  | 0 => ([], s, bad)
  | n + 1 =>
    let r := rdPs s bad n
    let x := rdTxt r.2.1 r.2.2
    let y := rdTxt x.2.1 x.2.2
    (r.1 ++ [(x.1, y.1)], y.2.1, y.2.2)
def rdIs (s : ByteArray) (bad : Bool) : Nat → List ByteArray × ByteArray × Bool
  | 0 => ([], s, bad)
  | n + 1 =>
    let r := rdIs s bad n
    let x := rdTxt r.2.1 r.2.2
    (r.1 ++ [x.1], x.2.1, x.2.2)
def sgn (n : Nat) : Int := wrap64 (wrap32 (n : Int))
/-- What follows, behind the kind k. -/
def rdBody (k : Nat) (s : ByteArray) (bad : Bool) : Vl × ByteArray × Bool :=
  if k = 1 then (⟨k, (rdTxt s bad).1, [], [], 0, 0⟩, (rdTxt s bad).2)
  else if k = 2 then (⟨k, ⟨#[]⟩, (rdPs (rdCnt s bad).2.1 (rdCnt s bad).2.2 (rdCnt s bad).1).1, [], 0, 0⟩, (rdPs (rdCnt s bad).2.1 (rdCnt s bad).2.2 (rdCnt s bad).1).2)
  else if k = 3 ∨ k = 4 then (⟨k, ⟨#[]⟩, [], (rdIs (rdCnt s bad).2.1 (rdCnt s bad).2.2 (rdCnt s bad).1).1, 0, 0⟩, (rdIs (rdCnt s bad).2.1 (rdCnt s bad).2.2 (rdCnt s bad).1).2)
  else if k = 5 then (⟨k, ⟨#[]⟩, [], [], sgn (rdNum 4 s bad).1, sgn (rdNum 4 (rdNum 4 s bad).2.1 (rdNum 4 s bad).2.2).1⟩, (rdNum 4 (rdNum 4 s bad).2.1 (rdNum 4 s bad).2.2).2)
  else (⟨k, ⟨#[]⟩, [], [], 0, 0⟩, (s, bad))
def rdVal (s : ByteArray) (bad : Bool) : Vl × ByteArray × Bool := rdBody (rdNum 1 s bad).1 (rdNum 1 s bad).2.1 (rdNum 1 s bad).2.2
/-- What reader.value leaves. -/
def ValOut (g : Nat) (r : Vl × ByteArray × Bool) (w : World) (e : Ending) (w' : World) : Prop := ∃ u, e = .returned u ∧ RowKit.Hid (VRd w' u r.1) ∧ RowKit.Hid (Rdr w' g r.2.1 r.2.2) ∧ RowKit.Hid (w.grownBy w' (some g))
theorem only_block {w w' : World} {g b : Nat} {o : Obj} (h : w.grownBy w' (some g)) (hb : w.heap[b]? = some o) (hne : b ≠ g) : w'.heap[b]? = some o := by
  rw [h.block b (lt_of_block hb) (fun e => hne (by injection e))]; exact hb
theorem only_alloc {w w' : World} {g : Nat} (h : w.grownBy w' (some g)) (o : Obj) : w.grownBy (w'.alloc o) (some g) := only_trans h (only_below ((Below.refl _ _).alloc (Nat.le_refl _) o))
/-- A store into a block that is new since w. -/
theorem only_new {w w' : World} {g b i : Nat} (h : w.grownBy w' (some g)) (hb : w.heap.size ≤ b) (v : Value) : w.grownBy (w'.setCell ⟨b, i, none⟩ v) (some g) :=
  ⟨by simp [World.setCell]; exact h.os, by simp [World.setCell]; exact h.tape, by simp [World.setCell]; exact h.output, by simp [World.setCell]; exact h.size, fun k hk hne => (Below.heap_setCell w' ⟨b, i, none⟩ v k (by dsimp only; omega)).trans (h.block k hk hne)⟩
theorem only_s6 {w w' : World} {g b : Nat} (h : w.grownBy w' (some g)) (hb : w.heap.size ≤ b) (u0 u1 u2 u3 u4 u5 : Value) :
    w.grownBy ((((((w'.setCell ⟨b, 0, none⟩ u0).setCell ⟨b, 1, none⟩ u1).setCell ⟨b, 2, none⟩ u2).setCell ⟨b, 3, none⟩ u3).setCell ⟨b, 4, none⟩ u4).setCell ⟨b, 5, none⟩ u5) (some g) :=
  only_new (only_new (only_new (only_new (only_new (only_new h hb u0) hb u1) hb u2) hb u3) hb u4) hb u5
theorem blk_s6 {w : World} {b k : Nat} (hne : k ≠ b) (u0 u1 u2 u3 u4 u5 : Value) :
    ((((((w.setCell ⟨b, 0, none⟩ u0).setCell ⟨b, 1, none⟩ u1).setCell ⟨b, 2, none⟩ u2).setCell ⟨b, 3, none⟩ u3).setCell ⟨b, 4, none⟩ u4).setCell ⟨b, 5, none⟩ u5).heap[k]? = w.heap[k]? := by
  rw [Below.heap_setCell _ _ _ _ hne, Below.heap_setCell _ _ _ _ hne, Below.heap_setCell _ _ _ _ hne, Below.heap_setCell _ _ _ _ hne, Below.heap_setCell _ _ _ _ hne, Below.heap_setCell _ _ _ _ hne]

theorem rnum_as (g n : Nat) (s : ByteArray) (bad : Bool) (k : Nat) (s1 : ByteArray) (b1 : Bool) (hr : rdNum n s bad = (k, s1, b1)) (w : World) (h : Rdr w g s bad) (hs : s.size ≤ maxLen) (hn : n ≤ 4) :
    Calls Tryd.prog 56 #[.pointer (some ⟨g, 0, none⟩), .int .i64 (n : Int)] w (RdOut g (.int .i64 (k : Int)) s1 b1 w) := by
  have := rnum_at g n s bad w h hs hn
  rwa [hr] at this
theorem rtext_as (g : Nat) (s : ByteArray) (bad : Bool) (x s1 : ByteArray) (b1 : Bool) (hr : rdTxt s bad = (x, s1, b1)) (w : World) (h : Rdr w g s bad) (hs : s.size ≤ maxLen) :
    Calls Tryd.prog 57 #[.pointer (some ⟨g, 0, none⟩)] w (RdOut g (.string x) s1 b1 w) := by
  have := rtext_is g s bad w h hs
  rwa [hr] at this
theorem rcount_as (g : Nat) (s : ByteArray) (bad : Bool) (n : Nat) (s1 : ByteArray) (b1 : Bool) (hr : rdCnt s bad = (n, s1, b1)) (w : World) (h : Rdr w g s bad) (hs : s.size ≤ maxLen) :
    Calls Tryd.prog 58 #[.pointer (some ⟨g, 0, none⟩)] w (RdOut g (.int .i64 (n : Int)) s1 b1 w) := by
  have := rcount_is g s bad w h hs
  rwa [hr] at this
theorem rdNum_left {n k : Nat} {s s1 : ByteArray} {bad b1 : Bool} (h : rdNum n s bad = (k, s1, b1)) : s1.size ≤ s.size := by
  have := rdN_left n s bad
  unfold rdNum at h
  injection h with _ h; injection h with h _
  rw [← h]; exact this
theorem rdTxt_left {x s s1 : ByteArray} {bad b1 : Bool} (h : rdTxt s bad = (x, s1, b1)) : s1.size ≤ s.size ∧ x.size ≤ s.size := by
  unfold rdTxt at h
  generalize hr : rdNum 2 s bad = r at h
  obtain ⟨n, t, b⟩ := r
  have h1 := rdNum_left hr
  have h2 := rdN_left n t b
  have h3 : (rdN n t b).1.size ≤ t.size := by
    unfold rdN
    split
    · exact Nat.zero_le _
    · simp [ByteArray.size_extract]; omega
  dsimp only at h
  rw [h] at h2 h3
  exact ⟨Nat.le_trans h2 h1, Nat.le_trans h3 h1⟩
theorem rdCnt_left {n : Nat} {s s1 : ByteArray} {bad b1 : Bool} (h : rdCnt s bad = (n, s1, b1)) : s1.size ≤ s.size ∧ n ≤ 256 := by
  unfold rdCnt at h
  generalize hr : rdNum 2 s bad = r at h
  obtain ⟨m, t, b⟩ := r
  have h1 := rdNum_left hr
  dsimp only at h
  split at h
  · injection h with h2 h; injection h with h3 _
    subst h2 h3; exact ⟨h1, Nat.zero_le _⟩
  · injection h with h2 h; injection h with h3 _
    subst h2 h3; exact ⟨h1, by omega⟩
theorem rdblk {w w' : World} {A : Option Addr} {l : List ByteArray} (h : Rd w A l) (hb : ∀ b off, A = some ⟨b, off, none⟩ → w'.heap[b]? = w.heap[b]?) : Rd w' A l := by
  rcases h with h | ⟨b, off, rfl, h⟩
  · exact .inl h
  · refine .inr ⟨b, off, rfl, fun i x hx => ?_⟩
    rw [← h i x hx]; exact World.cell?_of_block (hb b off rfl)
theorem RdP.blk {w w' : World} {A : Option Addr} {l : List (ByteArray × ByteArray)} (h : RdP w A l) (hb : ∀ b off, A = some ⟨b, off, none⟩ → w'.heap[b]? = w.heap[b]?) : RdP w' A l := by
  rcases h with h | ⟨b, off, rfl, h⟩
  · exact .inl h
  · refine .inr ⟨b, off, rfl, fun i x hx => ?_⟩
    have := h i x hx
    exact ⟨by rw [← this.1]; exact World.cell?_of_block (hb b off rfl), by rw [← this.2]; exact World.cell?_of_block (hb b off rfl)⟩
theorem rv_first {w w1 : World} {g : Nat} {k : Int} {s1 : ByteArray} {b1 : Bool} (hgl : g < w.heap.size) (HR : RowKit.Hid (Rdr w1 g s1 b1))
    (HO : RowKit.Hid ((w.alloc (.cells #[.int .i64 0, .string ⟨#[]⟩, .slice none 0 0, .slice none 0 0, .int .i64 0, .int .i64 0] 27)).grownBy w1 (some g))) :
    ∃ b3 : Nat, Value.pointer (some ⟨w1.heap.size, 0, none⟩) = .pointer (some ⟨b3, 0, none⟩) ∧ w.heap.size < b3 ∧
      RowKit.Hid ((w1.alloc (.cells #[.int .i64 k, .string ⟨#[]⟩, .slice none 0 0, .slice none 0 0, .int .i64 0, .int .i64 0] 27)).heap[w.heap.size]? = some (.cells #[.int .i64 0, .string ⟨#[]⟩, .slice none 0 0, .slice none 0 0, .int .i64 0, .int .i64 0] 27 (0, 0))) ∧
      RowKit.Hid ((w1.alloc (.cells #[.int .i64 k, .string ⟨#[]⟩, .slice none 0 0, .slice none 0 0, .int .i64 0, .int .i64 0] 27)).heap[b3]? = some (.cells #[.int .i64 k, .string ⟨#[]⟩, .slice none 0 0, .slice none 0 0, .int .i64 0, .int .i64 0] 27 (0, 0))) ∧
      RowKit.Hid (Rdr (w1.alloc (.cells #[.int .i64 k, .string ⟨#[]⟩, .slice none 0 0, .slice none 0 0, .int .i64 0, .int .i64 0] 27)) g s1 b1) ∧
      RowKit.Hid (w.grownBy (w1.alloc (.cells #[.int .i64 k, .string ⟨#[]⟩, .slice none 0 0, .slice none 0 0, .int .i64 0, .int .i64 0] 27)) (some g)) := by
  have hz := HO.out.size
  rw [alloc_size] at hz
  refine ⟨_, rfl, by omega, Lib.hid ?_, Lib.hid (heap_alloc_new _ _), Lib.hid (HR.out.keep ((Below.refl _ _).alloc (Nat.le_refl _) _)), Lib.hid (only_alloc (only_trans (only_below ((Below.refl _ _).alloc (Nat.le_refl _) _)) HO.out) _)⟩
  exact keep_block ((Below.refl _ _).alloc (Nat.le_refl _) _) (only_block HO.out (heap_alloc_new _ _) (by omega))
theorem rv_out {g : Nat} {w wc : World} {a : Vl} {s1 : ByteArray} {b1 : Bool} {PA : Option Addr} {pc : Nat} {IA : Option Addr} {ic : Nat} (hgl : g < w.heap.size) (HR : Rdr wc g s1 b1) (HG : w.grownBy wc (some g))
    (hP : RdP wc PA a.pairs) (hI : Rd wc IA a.items) (hPb : ∀ b off, PA = some ⟨b, off, none⟩ → b ≠ w.heap.size) (hIb : ∀ b off, IA = some ⟨b, off, none⟩ → b ≠ w.heap.size)
    (np : a.pairs.length ≤ maxLen) (ni : a.items.length ≤ maxLen) (nt : a.text.size ≤ maxLen) (pz : ∀ p ∈ a.pairs, p.1.size ≤ maxLen ∧ p.2.size ≤ maxLen) (iz : ∀ x ∈ a.items, x.size ≤ maxLen) :
    ValOut g (a, s1, b1) w (.returned (vV a.kind a.text PA a.pairs.length pc IA a.items.length ic a.re a.im))
      ((((((wc.setCell ⟨w.heap.size, 0, none⟩ (.int .i64 a.kind)).setCell ⟨w.heap.size, 1, none⟩ (.string a.text)).setCell ⟨w.heap.size, 2, none⟩ (.slice PA a.pairs.length pc)).setCell ⟨w.heap.size, 3, none⟩ (.slice IA a.items.length ic)).setCell ⟨w.heap.size, 4, none⟩ (.int .i64 a.re)).setCell ⟨w.heap.size, 5, none⟩ (.int .i64 a.im)) :=
  ⟨_, rfl, Lib.hid ⟨⟨PA, pc, IA, ic, rfl, hP.blk fun b off e => blk_s6 (hPb b off e) _ _ _ _ _ _, rdblk hI fun b off e => blk_s6 (hIb b off e) _ _ _ _ _ _⟩, np, ni, nt, pz, iz⟩,
    Lib.hid ((blk_s6 (by omega) _ _ _ _ _ _).trans HR), Lib.hid (only_s6 HG (Nat.le_refl _) _ _ _ _ _ _)⟩
theorem blk_other {w : World} {b i k : Nat} {v : Value} {o : Obj} (hne : k ≠ b) (h : w.heap[k]? = some o) : (w.setCell ⟨b, i, none⟩ v).heap[k]? = some o := by
  rw [Below.heap_setCell _ _ _ _ hne]; exact h
end Go.Proofs.YtdpgkihecpjijaaDoor.T
