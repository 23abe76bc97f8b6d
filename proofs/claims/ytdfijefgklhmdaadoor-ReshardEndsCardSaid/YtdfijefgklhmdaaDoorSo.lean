import Derived.Deep.DeepCutAuto
import Derived.Laws.OwnMore
import Derived.OwnWalk
import Derived.Lib.AppendStr
import Derived.Lib.SliceRun
import Derived.Lib.SmallJoins
import Derived.IntWalk
import Derived.Lib.ItoaLen
import Derived.Deep.AppendLies
import Derived.Test.YtdfijefgklhmdaaDoorProg
import Derived.Test.YtdfijefgklhmdaaDoorShelf
import Derived.Test.YtdfijefgklhmdaaDoorMem
import Derived.Deep.RegionLaw
import Derived.Test.YtdfijefgklhmdaaDoorSn
import Derived.Test.YtdfijefgklhmdaaDoorZr
import Derived.Test.YtdfijefgklhmdaaDoorRk
import Derived.WalkKit
import Derived.Outline
import Derived.WalkLawsBesides
import Derived.Deep.QuietTactic
import Derived.BigQuiet
import Derived.Lib.Hide
import Derived.Handy
import Derived.Deep.RegionHeld3
import Derived.Deep.DrawnRows
import Derived.KernelRfl
import Derived.Great.Walk
import Derived.Test.YtdfijefgklhmdaaDoorOwn
namespace Go.Proofs.YtdfijefgklhmdaaDoor.T
open Go Go.RowKit Go.Sort Mem Own
set_option maxRecDepth 100000
set_option maxHeartbeats 1000000
set_option linter.unusedVariables false
set_option linter.unusedSimpArgs false

theorem info3 : (Tryd.prog.info? 3).map (fun i => (i.zero, i.size, i.bytes)) = some (some (.int .i64 0), 1, 8) := by kernel_rfl
def RdI (w : World) (A : Option Addr) (zs : List Int) : Prop := zs = [] ∨ ∃ b off, A = some ⟨b, off, none⟩ ∧ ∀ i z, zs[i]? = some z → w.cell? ⟨b, off + i, none⟩ = some (.int .i64 z)
theorem RdI.below {w w' : World} {A : Option Addr} {l : List Int} (h : RdI w A l) (hb : Below w.heap.size w w') : RdI w' A l := by
  rcases h with h | ⟨b, off, rfl, h⟩
  · exact .inl h
  · exact .inr ⟨b, off, rfl, fun i m hm => cell_below hb (h i m hm)⟩
theorem RdI.addr {w : World} {A : Option Addr} {l : List Int} (h : RdI w A l) (hl : 0 < l.length) : ∃ b off, A = some ⟨b, off, none⟩ := by
  rcases h with rfl | ⟨b, off, rfl, _⟩
  · simp at hl
  · exact ⟨b, off, rfl⟩
theorem RdI.cell {w : World} {b off : Nat} {l : List Int} (h : RdI w (some ⟨b, off, none⟩) l) {i : Nat} (hi : i < l.length) : w.cell? ⟨b, off + i, none⟩ = some (.int .i64 l[i]) := by
  rcases h with rfl | ⟨b', off', e, h⟩
  · simp at hi
  · cases e; exact h i _ (List.getElem?_eq_getElem hi)
def ivs (zs : List Int) : List Value := zs.map (Value.int .i64)
theorem newsI {w : World} {a : Addr} {zs : List Int} (ha : RdI w (some a) zs) : ∀ j u, (ivs zs)[j]? = some u → w.cell? (a.add j) = some u := by
  intro j u hu
  rcases ha with rfl | ⟨b, off, e, hc⟩
  · simp [ivs] at hu
  · cases e
    rw [ivs, List.getElem?_map] at hu
    obtain ⟨z, hz, rfl⟩ := Option.map_eq_some_iff.1 hu
    rw [add_off]
    exact hc j z hz
/-- How many keys a move has. -/
def Fz (zs : List Int) (i : Nat) : Nat := (max (min (zs.getD i 0) 60) 0).toNat
theorem Fz_le (zs : List Int) (i : Nat) : Fz zs i ≤ 60 := by unfold Fz; omega
theorem Fz_in {zs : List Int} {i : Nat} (h : i < zs.length) : max (min zs[i] 60) 0 = ((Fz zs i : Nat) : Int) := by unfold Fz; rw [List.getD_eq_getElem?_getD, List.getElem?_eq_getElem h, Option.getD_some]; omega
theorem Fz_out {zs : List Int} {i : Nat} (h : ¬ i < zs.length) : Fz zs i = 0 := by unfold Fz; rw [List.getD_eq_getElem?_getD, List.getElem?_eq_none (by omega)]; rfl
def gz (zs : List Int) (B i : Nat) : Nat := 5 + Fz zs i + Fz zs i / B + 2
theorem mvc_gz {zs : List Int} {B : Nat} (h : 1 ≤ B) (i : Nat) : mvc B (Fz zs i) ≤ gz zs B i := by unfold mvc gz; have := cl_le (k := Fz zs i) h; omega
theorem gz_le {zs : List Int} {B : Nat} (i : Nat) : gz zs B i ≤ 127 := by unfold gz; have := Fz_le zs i; have : Fz zs i / B ≤ Fz zs i := Nat.div_le_self _ _; omega
/-- The sum ahead of i. -/
def ps (f : Nat → Nat) (i : Nat) : Nat := ((List.range i).map f).sum
theorem ps_zero (f : Nat → Nat) : ps f 0 = 0 := rfl
theorem ps_succ (f : Nat → Nat) (i : Nat) : ps f (i + 1) = ps f i + f i := by unfold ps; rw [List.range_succ, List.map_append, List.sum_append]; simp
theorem ps_le {zs : List Int} {B : Nat} (i : Nat) : ps (gz zs B) i ≤ 127 * i := by
  induction i with
  | zero => exact Nat.le_refl _
  | succ i ih => rw [ps_succ]; have := gz_le (zs := zs) (B := B) i; omega
theorem sm_ps (f : Nat → Nat) (M : Nat) : sm f M 0 = ps f M := rfl
/-- The keys of a move. -/
def keyAt (i : Nat) : ByteArray := ⟨#[UInt8.ofNat (97 + i % 26), UInt8.ofNat (97 + i / 26)]⟩
def keysN (n : Nat) : List ByteArray := (List.range n).map keyAt
theorem keysN_len (n : Nat) : (keysN n).length = n := by simp [keysN]
theorem keysN_succ (n : Nat) : keysN (n + 1) = keysN n ++ [keyAt n] := by simp [keysN, List.range_succ]
theorem keyAt_inj : ∀ i, i < 60 → ∀ j, j < 60 → keyAt i = keyAt j → i = j := by decide +kernel
theorem keysN_nodup {n : Nat} (h : n ≤ 60) : (keysN n).Nodup := by
  unfold keysN List.Nodup
  rw [List.pairwise_map]
  exact List.Pairwise.imp_of_mem (fun {a b} ha hb hne e => hne (keyAt_inj a (by have := List.mem_range.1 ha; omega) b (by have := List.mem_range.1 hb; omega) e)) List.nodup_range
theorem conv_key (w : World) (i : Nat) (h : i < 60) (z0 z1 : Int) (h0 : z0 = 97 + (i : Int) % 26) (h1 : z1 = 97 + (i : Int) / 26) : (convert 51 9 (.slice (some ⟨w.heap.size, 0, none⟩) 2 2)).run Tryd.prog (w.alloc (.cells #[.int .u8 z0, .int .u8 z1] 5)) = .ok (.string (keyAt i)) (w.alloc (.cells #[.int .u8 z0, .int .u8 z1] 5)) := by
  have e0 : z0 = ((UInt8.ofNat (97 + i % 26)).toNat : Int) := by rw [UInt8.toNat_ofNat']; omega
  have e1 : z1 = ((UInt8.ofNat (97 + i / 26)).toNat : Int) := by rw [UInt8.toNat_ofNat']; omega
  rw [e0, e1]
  refine run_convert_bytes_back (P := Tryd.prog) (w.alloc (.cells #[.int .u8 ((UInt8.ofNat (97 + i % 26)).toNat : Int), .int .u8 ((UInt8.ofNat (97 + i / 26)).toNat : Int)] 5)) 51 9 5 ⟨w.heap.size, 0, none⟩ 2 [UInt8.ofNat (97 + i % 26), UInt8.ofNat (97 + i / 26)] Tryd.underlying51 Tryd.underlying5 Tryd.underlying9 fun j hj => ?_
  have hb := heap_alloc_new w (.cells #[.int .u8 ((UInt8.ofNat (97 + i % 26)).toNat : Int), .int .u8 ((UInt8.ofNat (97 + i / 26)).toNat : Int)] 5)
  have hj2 : j < 2 := by simpa using hj
  rcases (show j = 0 ∨ j = 1 by omega) with rfl | rfl
  · exact of_blk hb 0
  · exact of_blk hb 1
theorem most_step {p n B : Nat} (hp : p ≤ 10000) (hn : n ≤ 60) : wrap64 ((p : Int) + wrap64 (wrap64 (5 + (n : Int) + wrap64 ((n : Int) / (B : Int))) + 2)) = ((p + (5 + n + n / B + 2) : Nat) : Int) := by
  have hdv : ((n : Int) / (B : Int)) = ((n / B : Nat) : Int) := by simp
  have hdl : n / B ≤ 60 := by have : n / B ≤ n := Nat.div_le_self _ _; omega
  rw [hdv]
  generalize n / B = q at hdl ⊢
  unfold RowKit.wrap64
  omega
theorem most_zero {p B : Nat} : (p : Int) + 7 = ((p + (5 + 0 + 0 / B + 2) : Nat) : Int) := by
  rw [Nat.zero_div]; omega
/-- What stands while a plan is done. -/
structure EnSt (w0 : World) (g : Nat) (P : Option Addr) (pc : Nat) (l : List Mv) (B : Int) (D : Dr) (w : World) : Prop where
  dr : ∃ Q1 q1, DrRd w g P pc Q1 q1 D
  hg : w0.heap.size ≤ g
  bl : Below w0.heap.size w0 w
  ok : DrOk D
  pl : D.plan = l
  B : D.B = B
  dq : D.queue.length ≤ 8796093022000
  nf : D.failed = false
section
variable {w0 w w' : World} {g : Nat} {P : Option Addr} {pc : Nat} {D : Dr} {l : List Mv} {B : Int}
theorem EnSt.below (h : EnSt w0 g P pc l B D w) (hb : Below w.heap.size w w') : EnSt w0 g P pc l B D w' := by
  obtain ⟨Q1, q1, hd⟩ := h.dr
  exact { h with dr := ⟨Q1, q1, hd.below hb⟩, bl := h.bl.trans (hb.mono h.bl.size) }
theorem EnSt.left (h : EnSt w0 g P pc l B D w) (n : Nat) (hn : n + D.dn = l.length) : Calls Tryd.prog 16 #[.pointer (some ⟨g, 0, none⟩)] w fun e w' => e = .returned (.int .i64 n) ∧ Below w.heap.size w w' := by
  obtain ⟨Q1, q1, hd⟩ := h.dr
  refine (left_is g P pc Q1 q1 D w hd h.ok.len h.ok.dn).mono ?_
  rintro e w' ⟨rfl, hb⟩
  have := h.pl
  exact ⟨by rw [show (D.plan.length : Int) - (D.dn : Int) = (n : Int) by rw [h.pl]; omega], hb⟩
theorem EnSt.next (h : EnSt w0 g P pc l B D w) (he : ¬ atEnd D) (hT : Tab w0) : Calls Tryd.prog 13 #[.pointer (some ⟨g, 0, none⟩)] w (NextOut (nextN D) (nextL D) true w) := by
  obtain ⟨Q1, q1, hd⟩ := h.dr
  exact next_main g P pc Q1 q1 D w hd h.ok he (hT.keep h.bl)
theorem EnSt.fails (h : EnSt w0 g P pc l B D w) : Calls Tryd.prog 18 #[.pointer (some ⟨g, 0, none⟩)] w fun e w' => e = .returned (.bool false) ∧ Below w.heap.size w w' := by
  obtain ⟨Q1, q1, hd⟩ := h.dr
  have := failed_is g P pc Q1 q1 D w hd
  rw [h.nf] at this
  exact this
theorem EnSt.ans (h : EnSt w0 g P pc l B D w) (r : Rp) (Ar : Option Addr) (cr : Nat) (hrk : RdK w Ar r.ks) (hkn : r.ks.length ≤ 8796093022000) (hz : -9223372036854775808 ≤ r.z ∧ r.z ≤ 9223372036854775807) (hnf : (ansD D r).failed = false) : Calls Tryd.prog 12 #[.pointer (some ⟨g, 0, none⟩), rpV r Ar cr] w fun e w' => e = .returned (.tuple #[]) ∧ RowKit.Hid (EnSt w0 g P pc l B (ansD D r) w') ∧ RowKit.Hid (∀ A L, Rd w A L → Rd w' A L) ∧ RowKit.Hid (∀ (k : Nat) (cs : Array Value) (T : TypeId) (fr : Nat × Nat), w.heap[k]? = some (Obj.cells cs T fr) → T ≠ 60 → w'.heap[k]? = some (Obj.cells cs T fr)) := by
  obtain ⟨Q1, q1, hd⟩ := h.dr
  refine (ans_is g P pc Q1 q1 D r Ar cr w hd h.ok hrk hkn).mono ?_
  rintro e w' ⟨rfl, Q', qc', k1, k2⟩
  exact ⟨rfl, Lib.hid ⟨⟨Q', qc', k1.out⟩, h.hg, h.bl.trans (below_only k2.out h.bl.size h.hg), ansD_ok h.ok hz, by rw [(ansD_plan D r).1]; exact h.pl, by rw [(ansD_plan D r).2.1]; exact h.B, ansD_queue h.dq hkn, hnf⟩, Lib.hid (fun A L hr => rd_drv hd k2.out hr), Lib.hid (fun k cs T fr hk hT => only_keep k2.out hk (typ_ne hk hd.blk hT))⟩
theorem ansR_small (D : Dr) (K : List ByteArray) : (ansR D K).ks.length ≤ K.length ∧ 0 ≤ (ansR D K).z ∧ (ansR D K).z ≤ 5 := by
  unfold ansR
  split
  · simp; omega
  split <;> simp
theorem nextL_len (D : Dr) : 3 ≤ (nextL D).length ∧ (nextL D).length ≤ 5 := by
  unfold nextL; split; simp; split; simp; split; simp; split; simp; split <;> simp
end
end Go.Proofs.YtdfijefgklhmdaaDoor.T
