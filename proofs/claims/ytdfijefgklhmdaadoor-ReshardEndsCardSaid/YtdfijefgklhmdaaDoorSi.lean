import Derived.Deep.DeepCutAuto
import Derived.Laws.OwnMore
import Derived.OwnWalk
import Derived.Lib.AppendStr
import Derived.Lib.SliceRun
import Derived.Lib.SmallJoins
import Derived.IntWalk
import Derived.Lib.ItoaLen
import Derived.Deep.AppendLies
import Derived.Test.YtdfijefgklhmdaaDoorProg
import Derived.Test.YtdfijefgklhmdaaDoorShelf
import Derived.Test.YtdfijefgklhmdaaDoorMem
import Derived.Deep.RegionLaw
import Derived.Test.YtdfijefgklhmdaaDoorSd
import Derived.Test.YtdfijefgklhmdaaDoorSc
import Derived.Test.YtdfijefgklhmdaaDoorSe
import Derived.Test.YtdfijefgklhmdaaDoorSf
import Derived.Test.YtdfijefgklhmdaaDoorSg
import Derived.Test.YtdfijefgklhmdaaDoorSh
import Derived.WalkKit
import Derived.Outline
import Derived.WalkLawsBesides
import Derived.Deep.QuietTactic
import Derived.BigQuiet
import Derived.Lib.Hide
import Derived.Handy
import Derived.Deep.RegionHeld3
import Derived.Deep.DrawnRows
import Derived.KernelRfl
import Derived.Great.Walk
import Derived.Test.YtdfijefgklhmdaaDoorOwn
namespace Go.Proofs.YtdfijefgklhmdaaDoor.T
open Go Go.RowKit Go.Sort Mem Own
set_option maxRecDepth 100000
set_option maxHeartbeats 1000000
set_option linter.unusedVariables false
set_option linter.unusedSimpArgs false

theorem rans_end (A : Option Addr) (M c : Nat) (B T : Int) (Q : Option Addr) (qn qc : Nat) (ep : Int) (k z : Int) (t : ByteArray) (Ar : Option Addr) (rn cr : Nat) (n0 : Int) (L0 : List ByteArray) (w : World) (call : Int) (fl : Bool) (hN : ∀ wx, Below w.heap.size w wx → Calls Tryd.prog 23 #[.agg #[.slice A M c, .int .i64 B, .int .i64 T, .int .i64 call, .slice Q qn qc, .int .i64 ep, .bool fl]] wx (NextOut n0 L0 false wx)) :
    Calls Tryd.prog 15 #[.agg #[.slice A M c, .int .i64 B, .int .i64 T, .int .i64 call, .slice Q qn qc, .int .i64 ep, .bool fl], .agg #[.int .i64 k, .int .i64 z, .string t, .slice Ar rn cr]] w fun e w' => e = .returned (.agg #[.slice A M c, .int .i64 B, .int .i64 T, .int .i64 call, .slice Q qn qc, .int .i64 ep, .bool fl]) ∧ Below w.heap.size w w' := by
  have HNX := Lib.hid hN
  clear hN
  obtain ⟨a2, a3, a4, aB, aS⟩ := alloc3 w #[.slice A M c, .int .i64 B, .int .i64 T, .int .i64 call, .slice Q qn qc, .int .i64 ep, .bool fl] #[.int .i64 k, .int .i64 z, .string t, .slice Ar rn cr] #[.slice none 0 0, .int .i64 0, .int .i64 0, .int .i64 0, .slice none 0 0, .int .i64 0, .bool false] 32 41 32
  have A2 := Lib.hid a2
  have A3 := Lib.hid a3
  have A4 := Lib.hid a4
  have AB := Lib.hid aB
  have AS := Lib.hid aS
  obtain ⟨x0, x1, x2, x3, x4, x5, x6⟩ := facts7 a2
  clear a2 a3 a4 aB aS
  go_enter Tryd.func15, Tryd.ntmps15
  go_upto_region 1 with (go_at_call 23; refine Calls.mono (HNX.out _ AB.out) ?_; rintro e w1 ⟨A1, c1, rfl, HR1, hb1⟩; have HB1 := Lib.hid hb1; clear hb1)
  go_cut [2, 3, 4, 7] (fun s2 s3 s4 s7 wx => s2 = .pointer (some ⟨w.heap.size, 0, none⟩) ∧ s3 = .pointer (some ⟨w.heap.size + 1, 0, none⟩) ∧ s4 = .pointer (some ⟨w.heap.size + 2, 0, none⟩) ∧ s7 = .bool false ∧ RowKit.Hid (wx.heap[w.heap.size]? = some (.cells #[.slice A M c, .int .i64 B, .int .i64 T, .int .i64 call, .slice Q qn qc, .int .i64 ep, .bool fl] 32 (0, 0))) ∧ RowKit.Hid (wx.heap[w.heap.size + 1]? = some (.cells #[.int .i64 k, .int .i64 z, .string t, .slice Ar rn cr] 41 (0, 0))) ∧ RowKit.Hid (wx.heap[w.heap.size + 2]? = some (.cells #[.slice none 0 0, .int .i64 0, .int .i64 0, .int .i64 0, .slice none 0 0, .int .i64 0, .bool false] 32 (0, 0))) ∧ RowKit.Hid (Below w.heap.size w wx) ∧ RowKit.Hid (w.heap.size + 3 ≤ wx.heap.size))
  case first =>
    go_wp2_with (go_at_call 23; refine Calls.mono (HNX.out _ AB.out) ?_; rintro e w1 ⟨A1, c1, rfl, HR1, hb1⟩; have HB1 := Lib.hid hb1; clear hb1)
    go_meet
    exact ⟨rfl, rfl, rfl, rfl, Lib.hid (keep_block HB1.out A2.out), Lib.hid (keep_block HB1.out A3.out), Lib.hid (keep_block HB1.out A4.out), Lib.hid (AB.out.trans (HB1.out.mono (by rw [AS.out]; omega))), Lib.hid (by have := HB1.out.size; rw [AS.out] at this; exact this)⟩
  case rest =>
    obtain ⟨rfl, rfl, rfl, rfl, HX2, HX3, HX4, HB, HS⟩ := hcut
    clear A2 A3 A4 AB AS x0 x1 x2 x3 x4 x5 x6
    obtain ⟨x0, x1, x2, x3, x4, x5, x6⟩ := facts7 HX2.out
    obtain ⟨y0, y1, y2, y3⟩ := facts4 HX3.out
    obtain ⟨z0, z1, z2, z3, z4, z5, z6⟩ := facts7 HX4.out
    obtain ⟨e0, e1, e2, e3, e4, e5, e6⟩ := free7 HX2.out
    obtain ⟨f0, f1, f2, f3, f4, f5, f6⟩ := free7 HX4.out
    have hs2 : w.heap.size < wc.heap.size := by have := HS.out; omega
    have hs3 : w.heap.size + 1 < wc.heap.size := by have := HS.out; omega
    have hs4 : w.heap.size + 2 < wc.heap.size := by have := HS.out; omega
    go_wp2_with fail
    refine end7c Tryd.results15 rfl (set7 _ _ _ _ _ _ _ HX4.out) ?_
    exact ⟨rfl, (below_s7 HB.out (by omega))⟩

theorem RdM.tail {w : World} {b off : Nat} {m : Mv} {l : List Mv} {X : Option Addr} (h : RdM w (some ⟨b, off, none⟩) (m :: l)) (hX : POr l.length (some ⟨b, off + 3, none⟩) X) : RdM w X l := by
  rcases hX with h0 | rfl
  · exact .inl (List.eq_nil_of_length_eq_zero h0)
  · rcases h with h | ⟨b', off', e, h⟩
    · cases h
    · cases e
      refine .inr ⟨b, off + 3, rfl, fun i y hy => ?_⟩
      have := h (i + 1) y (by simpa using hy)
      rw [show off + 3 + i * 3 = off + (i + 1) * 3 by omega]; exact this
theorem Rd.tail {w : World} {b off : Nat} {x : ByteArray} {l : List ByteArray} {X : Option Addr} (h : Rd w (some ⟨b, off, none⟩) (x :: l)) (hX : POr l.length (some ⟨b, off + 1, none⟩) X) : Rd w X l := by
  rcases hX with h0 | rfl
  · exact .inl (List.eq_nil_of_length_eq_zero h0)
  · exact rd_tail h
/-- The document's driver beside the program's. -/
structure Sim (D : Dr) (R : Rv) : Prop where
  failed : R.failed = D.failed
  plan : R.plan = D.plan.drop D.dn
  on : ¬ atEnd D → R.B = D.B ∧ R.T = D.T + D.dn ∧ R.call = D.call + 1 ∧ (D.call = 3 → R.queue = D.queue) ∧ (D.call = 5 → R.ep = D.ep)
theorem isB_ok {k : Int} {t : ByteArray} {l : List Int} : True := trivial
theorem isO (r : Rp) : isB r.k r.t 1 (ByteArray.toList ⟨#[79, 75]⟩) = rOk r := by
  unfold isB rOk; rw [show ByteArray.toList ⟨#[79, 75]⟩ = [79, 75] by decide +kernel]
theorem isBz (r : Rp) : isB r.k r.t 2 (ByteArray.toList ⟨#[69, 82, 82, 32, 98, 117, 115, 121]⟩) = rBusy r := by
  unfold isB rBusy; rw [show ByteArray.toList ⟨#[69, 82, 82, 32, 98, 117, 115, 121]⟩ = [69, 82, 82, 32, 98, 117, 115, 121] by decide +kernel]
theorem isA (r : Rp) : isB r.k r.t 2 (ByteArray.toList ⟨#[84, 82, 89, 65, 71, 65, 73, 78]⟩) = rAgain r := by
  unfold isB rAgain; rw [show ByteArray.toList ⟨#[84, 82, 89, 65, 71, 65, 73, 78]⟩ = [84, 82, 89, 65, 71, 65, 73, 78] by decide +kernel]
theorem isK (r : Rp) : isB r.k r.t 1 (ByteArray.toList ⟨#[78, 79, 75, 69, 89]⟩) = rNokey r := by
  unfold isB rNokey; rw [show ByteArray.toList ⟨#[78, 79, 75, 69, 89]⟩ = [78, 79, 75, 69, 89] by decide +kernel]
theorem isN (r : Rp) : isB r.k r.t 2 (ByteArray.toList ⟨#[69, 82, 82, 32, 110, 111, 116, 32, 101, 109, 112, 116, 121]⟩) = rNotEmpty r := by
  unfold isB rNotEmpty; rw [show ByteArray.toList ⟨#[69, 82, 82, 32, 110, 111, 116, 32, 101, 109, 112, 116, 121]⟩ = [69, 82, 82, 32, 110, 111, 116, 32, 101, 109, 112, 116, 121] by decide +kernel]
/-- The next call of both. -/
theorem rnext_sim {D : Dr} {R : Rv} {A : Option Addr} {c : Nat} {Q : Option Addr} {qc : Nat} {w : World} (hok : DrOk D) (hs : Sim D R) (ha : RdM w A R.plan) (hq : Rd w Q R.queue) :
    Calls Tryd.prog 23 #[rvV R A c Q qc] w (if R.failed = true ∨ R.plan.length = 0 then NextOut 0 [] false w else NextOut (nextN D) (nextL D) true w) := by
  obtain ⟨l, B, T, call, q, ep, fl⟩ := R
  by_cases he : fl = true ∨ l.length = 0
  · rw [if_pos he]
    exact rnext_end _ _ _ _ _ _ _ _ _ _ _ _ he
  · rw [if_neg he]
    have hf : fl = false := by cases fl with | false => rfl | true => exact absurd (.inl rfl) he
    have hlen : l.length = D.plan.length - D.dn := by have := hs.plan; dsimp only at this; rw [this, List.length_drop]
    have hat : ¬ atEnd D := by
      rintro (h | h)
      · have := hs.failed; dsimp only at this; rw [h] at this; rw [this] at hf; cases hf
      · apply he; right; omega
    obtain ⟨h1, h2, h3, h4, h5⟩ := hs.on hat
    dsimp only at h1 h2 h3 h4 h5
    have hdl : D.dn < D.plan.length := by have := hok.dn; have : ¬ D.dn = D.plan.length := fun e => hat (.inr e); omega
    have hm : l[0]? = some (nextM D) := by
      have := hs.plan; dsimp only at this
      rw [this]; simp [nextM, hdl]
    have hk : okM (nextM D) := by
      have := (hok.ok D.dn hdl) D.plan[D.dn] (List.getElem?_eq_getElem hdl)
      have e : nextM D = D.plan[D.dn] := by simp [nextM, hdl]
      rw [e]; exact this.1
    have hl1 := hok.len
    have hbt := hok.bt
    obtain ⟨c0, c1, c2, c3, c4, c5⟩ := next_cases D (nextM D) rfl
    have hff : D.failed = false := by have := hs.failed; dsimp only at this; rw [← this]; exact hf
    subst h1 h2 hf
    rcases hok.call with hc | hc | hc | ⟨hc, hqn⟩ | hc | hc | hc
    · obtain rfl : call = 1 := by omega
      rw [(c0 hc).1, (c0 hc).2]
      exact rnext_1 A l c D.B (D.T + D.dn) Q q.length qc ep (nextM D) w ha hm hk (by omega) (by omega) (by omega)
    · obtain rfl : call = 2 := by omega
      rw [(c1 hc).1, (c1 hc).2]
      exact rnext_2 A l c D.B (D.T + D.dn) Q q.length qc ep (nextM D) w ha hm hk (by omega) (by omega) (by omega)
    · obtain rfl : call = 3 := by omega
      rw [(c2 hc).1, (c2 hc).2]
      exact rnext_3 A l c D.B (D.T + D.dn) Q q.length qc ep (nextM D) w ha hm hk (by omega) (by omega) (by omega) ⟨hbt.1, hbt.2.1⟩
    · obtain rfl : call = 4 := by omega
      rw [(c3 hc).1, (c3 hc).2]
      have hqq := h4 hc
      subst hqq
      obtain ⟨x, l', hxl⟩ : ∃ x l', D.queue = x :: l' := by cases h : D.queue with | nil => exact absurd h hqn | cons x l' => exact ⟨x, l', rfl⟩
      rw [hxl] at hq ⊢
      obtain ⟨qb, qo, rfl⟩ := hq.addr (by simp)
      have q0 := hq.cell (show 0 < (x :: l').length by simp)
      exact rnext_4 A l c D.B (D.T + D.dn) qb qo l'.length qc ep (nextM D) w ha hm hk (by omega) (by omega) (by omega) x (by simpa using q0)
    · obtain rfl : call = 5 := by omega
      rw [(c4 hc).1, (c4 hc).2]
      exact rnext_5 A l c D.B (D.T + D.dn) Q q.length qc ep (nextM D) w ha hm hk (by omega) (by omega) (by omega)
    · obtain rfl : call = 6 := by omega
      rw [(c5 hc).1, (c5 hc).2]
      have hep := h5 hc
      subst hep
      exact rnext_6 A l c D.B (D.T + D.dn) Q q.length qc _ (nextM D) w ha hm hk (by omega) (by omega) (by omega) hok.ep
    · rw [hff] at hc; cases hc
end Go.Proofs.YtdfijefgklhmdaaDoor.T
