import Derived.Deep.DeepCutAuto
import Derived.Laws.OwnMore
import Derived.OwnWalk
import Derived.Lib.AppendStr
import Derived.Lib.SliceRun
import Derived.Lib.SmallJoins
import Derived.IntWalk
import Derived.Lib.ItoaLen
import Derived.Test.YtdfijefgklhmdaaDoorProg
import Derived.Test.YtdfijefgklhmdaaDoorShelf
import Derived.Test.YtdfijefgklhmdaaDoorMem
import Derived.Test.YtdfijefgklhmdaaDoorR1
import Derived.Test.YtdfijefgklhmdaaDoorRa
import Derived.Test.YtdfijefgklhmdaaDoorRb
import Derived.Test.YtdfijefgklhmdaaDoorRc
import Derived.Test.YtdfijefgklhmdaaDoorRe
import Derived.Test.YtdfijefgklhmdaaDoorRf
import Derived.Test.YtdfijefgklhmdaaDoorRg
import Derived.Test.YtdfijefgklhmdaaDoorRh
import Derived.Deep.AppendLies
import Derived.WalkKit
import Derived.Outline
import Derived.WalkLawsBesides
import Derived.Deep.QuietTactic
import Derived.BigQuiet
import Derived.Lib.Hide
import Derived.Handy
import Derived.Deep.RegionHeld3
import Derived.Deep.DrawnRows
import Derived.KernelRfl
import Derived.Great.Walk
import Derived.Test.YtdfijefgklhmdaaDoorOwn
namespace Go.Proofs.YtdfijefgklhmdaaDoor.T
open Go Go.RowKit Go.Sort Mem Own
set_option maxRecDepth 100000
set_option maxHeartbeats 1000000
set_option linter.unusedVariables false
set_option linter.unusedSimpArgs false

/-- A reply; of what it holds the kinds and texts alone. -/
structure Rp where
  k : Int
  z : Int
  t : ByteArray
  ks : List (Int × ByteArray)
/-- A row of replies, read. -/
def RdK (w : World) (A : Option Addr) (l : List (Int × ByteArray)) : Prop := l = [] ∨ ∃ b off, A = some ⟨b, off, none⟩ ∧ ∀ i x, l[i]? = some x → w.cell? ⟨b, off + i * 4, none⟩ = some (.int .i64 x.1) ∧ (∃ z, w.cell? ⟨b, off + i * 4 + 1, none⟩ = some (.int .i64 z)) ∧ w.cell? ⟨b, off + i * 4 + 2, none⟩ = some (.string x.2) ∧ ∃ B n c, w.cell? ⟨b, off + i * 4 + 3, none⟩ = some (.slice B n c)
theorem RdK.below {w w' : World} {A : Option Addr} {l : List (Int × ByteArray)} (h : RdK w A l) (hb : Below w.heap.size w w') : RdK w' A l := by
  rcases h with h | ⟨b, off, rfl, h⟩
  · exact .inl h
  · refine .inr ⟨b, off, rfl, fun i x hx => ?_⟩
    obtain ⟨h1, ⟨z, h2⟩, h3, B, n, c, h4⟩ := h i x hx
    exact ⟨cell_below hb h1, ⟨z, cell_below hb h2⟩, cell_below hb h3, B, n, c, cell_below hb h4⟩
abbrev rpV (r : Rp) (A : Option Addr) (c : Nat) : Value := .agg #[.int .i64 r.k, .int .i64 r.z, .string r.t, .slice A r.ks.length c]
def rOk (r : Rp) : Bool := (r.k == 1) && (r.t.toList == [79, 75])
def rAgain (r : Rp) : Bool := (r.k == 2) && (r.t.toList == [84, 82, 89, 65, 71, 65, 73, 78])
def rBusy (r : Rp) : Bool := (r.k == 2) && (r.t.toList == [69, 82, 82, 32, 98, 117, 115, 121])
def rNokey (r : Rp) : Bool := (r.k == 1) && (r.t.toList == [78, 79, 75, 69, 89])
def rNotEmpty (r : Rp) : Bool := (r.k == 2) && (r.t.toList == [69, 82, 82, 32, 110, 111, 116, 32, 101, 109, 112, 116, 121])
/-- The texts of a list of bulks. -/
def told (r : Rp) : List ByteArray × Bool := if r.ks.all (fun x => x.1 == 4) = true then (r.ks.map (fun x => x.2), r.k == 6) else ([], false)
/-- A driver behind an answer. -/
def ansD (D : Dr) (r : Rp) : Dr :=
  if D.failed = true ∨ D.dn = D.plan.length then D
  else if ¬ D.call = 3 ∧ (rAgain r || rBusy r) = true then D
  else if D.call = 0 then ⟨D.plan, D.B, D.T, D.dn, 1, D.queue, D.ep, !rOk r⟩
  else if D.call = 1 then ⟨D.plan, D.B, D.T, D.dn, 2, D.queue, D.ep, !rOk r⟩
  else if D.call = 2 then ⟨D.plan, D.B, D.T, D.dn, if (told r).1 = [] then 4 else 3, (told r).1, D.ep, !(told r).2⟩
  else if D.call = 3 then ⟨D.plan, D.B, D.T, D.dn, if D.queue.tail = [] then 2 else 3, D.queue.tail, D.ep, !(rOk r || rAgain r || rNokey r)⟩
  else if D.call = 4 then (if rNotEmpty r = true then ⟨D.plan, D.B, D.T, D.dn, 2, D.queue, r.z, false⟩ else ⟨D.plan, D.B, D.T, D.dn, 5, D.queue, r.z, !((r.k == 3) && decide (0 ≤ r.z))⟩)
  else ⟨D.plan, D.B, D.T, if rOk r = true then D.dn + 1 else D.dn, 0, D.queue, D.ep, !rOk r⟩
/-- A driver's block, in a world in which nothing else of the old one has turned. -/
def St (w0 : World) (g : Nat) (P : Option Addr) (pc : Nat) (Q : Option Addr) (qc : Nat) (D : Dr) (w : World) : Prop :=
  w.heap[g]? = some (.cells #[.slice P D.plan.length pc, .int .i64 D.B, .int .i64 D.T, .int .i64 D.dn, .int .i64 D.call, .slice Q D.queue.length qc, .int .i64 D.ep, .bool D.failed] 60 (0, 0)) ∧ w0.grownBy w (some g)
theorem only_trans {w w1 w2 : World} {g : Nat} (h : w.grownBy w1 (some g)) (h' : w1.grownBy w2 (some g)) : w.grownBy w2 (some g) :=
  ⟨h'.os.trans h.os, h'.tape.trans h.tape, h'.output.trans h.output, Nat.le_trans h.size h'.size, fun k hk hne => (h'.block k (Nat.lt_of_lt_of_le hk h.size) hne).trans (h.block k hk hne)⟩
theorem only_set (w : World) (g i : Nat) (v : Value) : w.grownBy (w.setCell ⟨g, i, none⟩ v) (some g) :=
  ⟨by simp [World.setCell], by simp [World.setCell], by simp [World.setCell], by simp [World.setCell], fun k hk hne => Below.heap_setCell w ⟨g, i, none⟩ v k (fun e => hne (by rw [e]))⟩
theorem only_below {w w' : World} {g : Nat} (hb : Below w.heap.size w w') : w.grownBy w' (some g) :=
  ⟨hb.os, hb.tape, hb.output, hb.size, fun k hk _ => hb.block k hk⟩
section
variable {w0 w w1 : World} {g : Nat} {P : Option Addr} {pc : Nat} {Q : Option Addr} {qc : Nat} {D : Dr}
theorem st_base (h : DrRd w0 g P pc Q qc D) (hb : Below w0.heap.size w0 w) : St w0 g P pc Q qc D w := ⟨keep_block hb h.blk, only_below hb⟩
theorem st_below (h : St w0 g P pc Q qc D w) (hb : Below w.heap.size w w1) : St w0 g P pc Q qc D w1 := ⟨keep_block hb h.1, only_trans h.2 (only_below hb)⟩
theorem st_drewN (h : St w0 g P pc Q qc D w) (q : Nat) : St w0 g P pc Q qc D (w.drewN q) := ⟨h.1, h.2.os, h.2.tape, h.2.output, h.2.size, h.2.block⟩
theorem st_drew (h : St w0 g P pc Q qc D w) : St w0 g P pc Q qc D w.drew := ⟨h.1, h.2.os, h.2.tape, h.2.output, h.2.size, h.2.block⟩
theorem st_alloc (h : St w0 g P pc Q qc D w) (o : Obj) : St w0 g P pc Q qc D (w.alloc o) := st_below h ((Below.refl _ _).alloc (Nat.le_refl _) o)
theorem st_dn (h : St w0 g P pc Q qc D w) (n : Nat) : St w0 g P pc Q qc ⟨D.plan, D.B, D.T, n, D.call, D.queue, D.ep, D.failed⟩ (w.setCell ⟨g, 3, none⟩ (.int .i64 n)) := by
  refine ⟨?_, only_trans h.2 (only_set _ _ _ _)⟩
  have := heap_set (i := 3) h.1 (.int .i64 n); simpa using this
theorem st_dn1 (h : St w0 g P pc Q qc D w) (n : Nat) : St w0 g P pc Q qc ⟨D.plan, D.B, D.T, n + 1, D.call, D.queue, D.ep, D.failed⟩ (w.setCell ⟨g, 3, none⟩ (.int .i64 ((n : Int) + 1))) := by
  have := st_dn h (n + 1); rw [show ((n + 1 : Nat) : Int) = (n : Int) + 1 by omega] at this; exact this
theorem st_call (h : St w0 g P pc Q qc D w) (v : Int) : St w0 g P pc Q qc ⟨D.plan, D.B, D.T, D.dn, v, D.queue, D.ep, D.failed⟩ (w.setCell ⟨g, 4, none⟩ (.int .i64 v)) := by
  refine ⟨?_, only_trans h.2 (only_set _ _ _ _)⟩
  have := heap_set (i := 4) h.1 (.int .i64 v); simpa using this
theorem st_queue (h : St w0 g P pc Q qc D w) (Q' : Option Addr) (qc' : Nat) (l : List ByteArray) : St w0 g P pc Q' qc' ⟨D.plan, D.B, D.T, D.dn, D.call, l, D.ep, D.failed⟩ (w.setCell ⟨g, 5, none⟩ (.slice Q' l.length qc')) := by
  refine ⟨?_, only_trans h.2 (only_set _ _ _ _)⟩
  have := heap_set (i := 5) h.1 (.slice Q' l.length qc'); simpa using this
theorem st_ep (h : St w0 g P pc Q qc D w) (v : Int) : St w0 g P pc Q qc ⟨D.plan, D.B, D.T, D.dn, D.call, D.queue, v, D.failed⟩ (w.setCell ⟨g, 6, none⟩ (.int .i64 v)) := by
  refine ⟨?_, only_trans h.2 (only_set _ _ _ _)⟩
  have := heap_set (i := 6) h.1 (.int .i64 v); simpa using this
theorem st_fail (h : St w0 g P pc Q qc D w) (v : Bool) : St w0 g P pc Q qc ⟨D.plan, D.B, D.T, D.dn, D.call, D.queue, D.ep, v⟩ (w.setCell ⟨g, 7, none⟩ (.bool v)) := by
  refine ⟨?_, only_trans h.2 (only_set _ _ _ _)⟩
  have := heap_set (i := 7) h.1 (.bool v); simpa using this
end
/-- What Answer leaves. -/
def AnsOut (g : Nat) (P : Option Addr) (pc : Nat) (D' : Dr) (w : World) (e : Ending) (w' : World) : Prop := e = .returned (.tuple #[]) ∧ ∃ Q' qc', RowKit.Hid (DrRd w' g P pc Q' qc' D') ∧ RowKit.Hid (w.grownBy w' (some g))
theorem RdM.only {w w' : World} {g : Nat} {A : Option Addr} {l : List Mv} (h : RdM w A l) (hg : w.grownBy w' (some g)) (hn : ∀ b off, A = some ⟨b, off, none⟩ → b ≠ g) : RdM w' A l := by
  have cell_only : ∀ {a : Addr} {v : Value}, w.cell? a = some v → a.block ≠ g → w'.cell? a = some v := by
    intro a v hc hne
    have hb := hg.block a.block (lt_of_cell hc) (fun e => hne (by injection e))
    unfold World.cell? at hc ⊢
    rw [hb]; exact hc
  rcases h with h | ⟨b, off, rfl, h⟩
  · exact .inl h
  · have := hn b off rfl
    exact .inr ⟨b, off, rfl, fun i m hm => ⟨cell_only (h i m hm).1 this, cell_only (h i m hm).2.1 this, cell_only (h i m hm).2.2 this⟩⟩
theorem rd_only {w w' : World} {g : Nat} {A : Option Addr} {l : List ByteArray} (h : Rd w A l) (hg : w.grownBy w' (some g)) (hn : ∀ b off, A = some ⟨b, off, none⟩ → b ≠ g) : Rd w' A l := by
  rcases h with h | ⟨b, off, rfl, h⟩
  · exact .inl h
  · have hne := hn b off rfl
    refine .inr ⟨b, off, rfl, fun i x hx => ?_⟩
    have hc := h i x hx
    have hb := hg.block b (lt_of_cell hc) (fun e => hne (by injection e))
    unfold World.cell? at hc ⊢
    dsimp only at hc ⊢
    rw [hb]; exact hc
/-- The end of an answer that leaves the queue's row. -/
theorem ans_end {g : Nat} {P : Option Addr} {pc : Nat} {Q : Option Addr} {qc : Nat} {D D' E : Dr} {w w' : World} (h0 : DrRd w g P pc Q qc D) (hs : St w g P pc Q qc D' w') (hp : D'.plan = D.plan) (hq : D'.queue = D.queue) (he : E = D') : AnsOut g P pc E w (.returned (.tuple #[])) w' := by
  subst he
  exact ⟨rfl, Q, qc, Lib.hid ⟨hs.1, by rw [hp]; exact h0.pl.only hs.2 h0.np, by rw [hq]; exact rd_only h0.qu hs.2 h0.nq, h0.np, h0.nq, by rw [hq]; exact h0.cp⟩, Lib.hid hs.2⟩
end Go.Proofs.YtdfijefgklhmdaaDoor.T
