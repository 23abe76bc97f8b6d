import Derived.Deep.DeepCutAuto
import Derived.Laws.OwnMore
import Derived.OwnWalk
import Derived.Lib.AppendStr
import Derived.Lib.SliceRun
import Derived.Lib.SmallJoins
import Derived.IntWalk
import Derived.Lib.ItoaLen
import Derived.Test.YtdfijefgklhmdaaDoorProg
import Derived.Test.YtdfijefgklhmdaaDoorShelf
import Derived.Test.YtdfijefgklhmdaaDoorMem
import Derived.Test.YtdfijefgklhmdaaDoorR1
import Derived.Test.YtdfijefgklhmdaaDoorRa
import Derived.Test.YtdfijefgklhmdaaDoorRb
import Derived.Test.YtdfijefgklhmdaaDoorRc
import Derived.Test.YtdfijefgklhmdaaDoorRe
import Derived.Test.YtdfijefgklhmdaaDoorRf
import Derived.Test.YtdfijefgklhmdaaDoorRg
import Derived.Test.YtdfijefgklhmdaaDoorRh
import Derived.Test.YtdfijefgklhmdaaDoorRp
import Derived.Deep.AppendLies
import Derived.WalkKit
import Derived.Outline
import Derived.WalkLawsBesides
import Derived.Deep.QuietTactic
import Derived.BigQuiet
import Derived.Lib.Hide
import Derived.Handy
import Derived.Deep.RegionHeld3
import Derived.Deep.DrawnRows
import Derived.KernelRfl
import Derived.Great.Walk
import Derived.Test.YtdfijefgklhmdaaDoorOwn
namespace Go.Proofs.YtdfijefgklhmdaaDoor.T
open Go Go.RowKit Go.Sort Mem Own
set_option maxRecDepth 100000
set_option maxHeartbeats 1000000
set_option linter.unusedVariables false
set_option linter.unusedSimpArgs false

theorem info9 : (Tryd.prog.info? 9).map (fun i => (i.zero, i.size, i.bytes)) = some (some (.string ByteArray.empty), 1, 16) := by kernel_rfl
theorem RdK.cell {w : World} {b off : Nat} {l : List (Int × ByteArray)} (h : RdK w (some ⟨b, off, none⟩) l) {i : Nat} (hi : i < l.length) : w.cell? ⟨b, off + i * 4, none⟩ = some (.int .i64 l[i].1) ∧ (∃ z, w.cell? ⟨b, off + i * 4 + 1, none⟩ = some (.int .i64 z)) ∧ w.cell? ⟨b, off + i * 4 + 2, none⟩ = some (.string l[i].2) ∧ ∃ B n c, w.cell? ⟨b, off + i * 4 + 3, none⟩ = some (.slice B n c) := by
  rcases h with rfl | ⟨b', off', e, h⟩
  · simp at hi
  · cases e
    exact h i l[i] (List.getElem?_eq_getElem hi)
theorem RdK.addr {w : World} {A : Option Addr} {l : List (Int × ByteArray)} (h : RdK w A l) (hl : 0 < l.length) : ∃ b off, A = some ⟨b, off, none⟩ := by
  rcases h with rfl | ⟨b, off, rfl, _⟩
  · simp at hl
  · exact ⟨b, off, rfl⟩
def ToldOut (r : Rp) (w : World) (e : Ending) (w' : World) : Prop := ∃ A c, e = .returned (.tuple #[.slice A (told r).1.length c, .bool (told r).2]) ∧ RowKit.Hid (Rd w' A (told r).1) ∧ RowKit.Hid ((told r).1.length ≤ c) ∧ RowKit.Hid (∀ b off, A = some ⟨b, off, none⟩ → w.heap.size ≤ b) ∧ Below w.heap.size w w'
theorem told_bad {r : Rp} {i : Nat} (hi : i < r.ks.length) (h : ¬ r.ks[i].1 = 4) : told r = ([], false) := by
  unfold told
  rw [if_neg]
  intro ha
  have := List.all_eq_true.1 ha _ (List.getElem_mem hi)
  exact h (by simpa using this)
theorem told_good {r : Rp} (h : ∀ x ∈ r.ks, x.1 = 4) : told r = (r.ks.map (fun x => x.2), r.k == 6) := by
  unfold told
  rw [if_pos (List.all_eq_true.2 fun x hx => by simpa using h x hx)]
theorem facts4 {w : World} {b T : Nat} {v0 v1 v2 v3 : Value} (h : w.heap[b]? = some (.cells #[v0, v1, v2, v3] T (0, 0))) :
    w.cell? ⟨b, 0, none⟩ = some v0 ∧ w.cell? ⟨b, 1, none⟩ = some v1 ∧ w.cell? ⟨b, 2, none⟩ = some v2 ∧ w.cell? ⟨b, 3, none⟩ = some v3 := ⟨of_blk h 0, of_blk h 1, of_blk h 2, of_blk h 3⟩
theorem told_end {w w' : World} {l : List ByteArray} {n : Nat} {v : Value} {b : Bool} {tl : List ByteArray × Bool} (h : tl = (l, b)) (ho : w'.ownsRow w.heap.size 9 1 v n (vs l)) (hb : Below w.heap.size w w') :
    ∃ A c, Ending.returned (.tuple #[v, .bool b]) = .returned (.tuple #[.slice A tl.1.length c, .bool tl.2]) ∧ RowKit.Hid (Rd w' A tl.1) ∧ RowKit.Hid (tl.1.length ≤ c) ∧ RowKit.Hid (∀ b off, A = some ⟨b, off, none⟩ → w.heap.size ≤ b) ∧ Below w.heap.size w w' := by
  subst h
  obtain rfl := own_len ho
  obtain ⟨A, c, rfl⟩ := own_slice ho
  exact ⟨A, c, rfl, Lib.hid (own_rd ho).1, Lib.hid (own_rd ho).2.2.1, Lib.hid (fun b off h => (ho.lt b (by rw [h]; rfl)).1), hb⟩
/-- reshard.told -/
theorem told_is (r : Rp) (A : Option Addr) (c : Nat) (w : World) (hr : RdK w A r.ks) (hn : r.ks.length ≤ 8796093022000) : Calls Tryd.prog 24 #[rpV r A c] w (ToldOut r w) := by
  obtain ⟨i0, hi, hz0, hz1, hz2⟩ := info_parts info9
  have HR := Lib.hid hr
  have HB0 := Lib.hid ((Below.refl w.heap.size w).alloc (Nat.le_refl _) (.cells #[.int .i64 r.k, .int .i64 r.z, .string r.t, .slice A r.ks.length c] 41))
  have HX0 := Lib.hid (heap_alloc_new w (.cells #[.int .i64 r.k, .int .i64 r.z, .string r.t, .slice A r.ks.length c] 41))
  have HBad := Lib.hid (fun (i : Nat) (hi : i < r.ks.length) (h : ¬ r.ks[i].1 = 4) => told_bad (r := r) hi h)
  have HGood := Lib.hid (fun h => told_good (r := r) h)
  unfold ToldOut
  generalize told r = tl at HBad HGood ⊢
  obtain ⟨k, z, t, ks⟩ := r
  dsimp only at HR HB0 HX0 HBad HGood hn ⊢
  clear hr
  obtain ⟨N, hN⟩ : ∃ N, N = ks.length := ⟨_, rfl⟩
  have HN := Lib.hid hN
  rw [← hN] at HB0 HX0 hn
  have hgoal : rpV ⟨k, z, t, ks⟩ A c = Value.agg #[.int .i64 k, .int .i64 z, .string t, .slice A N c] := by rw [hN]
  rw [hgoal]
  clear hN hgoal
  obtain ⟨w0, hw0⟩ : ∃ w0, w0 = w.alloc (.cells #[.int .i64 k, .int .i64 z, .string t, .slice A N c] 41) := ⟨_, rfl⟩
  rw [← hw0] at HB0 HX0
  have HSZ0 := Lib.hid (show w0.heap.size = w.heap.size + 1 by rw [hw0, alloc_size])
  have HW0 := Lib.hid hw0
  clear hw0
  go_enter Tryd.func24, Tryd.ntmps24
  go_wp2_with fail
  go_loopw [4, 10] (fun x4 x10 wr => ∃ (v0 : Value) (i : Nat) (o : List ByteArray), v0 = x4 ∧ i ≤ N ∧ x10 = .int .i64 i ∧ RowKit.Hid (o = (ks.take i).map (fun x => x.2)) ∧ RowKit.Hid (∀ x ∈ ks.take i, x.1 = 4) ∧ RowKit.Hid (wr.ownsRow w0.heap.size 9 1 v0 i (vs o)) ∧ RowKit.Hid (Below w0.heap.size w0 wr)) (fun _ x10 _ => N - (intOf x10).toNat)
  case atStart => exact ⟨_, 0, [], rfl, Nat.zero_le _, rfl, Lib.hid (by simp), Lib.hid (by simp), Lib.hid (World.ownsRow_nil _ _ _ _), Lib.hid (by rw [HW0.out]; exact Below.refl _ _)⟩
  case round =>
    obtain ⟨v0, i, o, rfl, hiN, rfl, HO, HA4, HO0, HB⟩ := hrel
    have hzr := HB.out.size
    have hs0 := HSZ0.out
    have HBw := Lib.hid (HB0.out.trans (HB.out.mono (by omega)))
    by_cases hlt : i < N
    · have hlt2 := Lib.hid (show i < ks.length by rw [← HN.out]; exact hlt)
      obtain ⟨b, off, rfl⟩ := HR.out.addr (Nat.zero_lt_of_lt hlt2.out)
      obtain ⟨g0, ⟨z1, g1⟩, g2, A3, n3, c3, g3⟩ := (HR.out.below HBw.out).cell hlt2.out
      have HBi := Lib.hid (HBad.out i hlt2.out)
      have HTk := Lib.hid (show ks.take (i + 1) = ks.take i ++ [ks[i]'hlt2.out] from List.take_succ_eq_append_getElem hlt2.out)
      obtain ⟨q, hq⟩ : ∃ q, q = ks[i]'hlt2.out := ⟨_, rfl⟩
      rw [← hq] at g0 g2 HBi HTk
      obtain ⟨qk, qt⟩ := q
      dsimp only at g0 g2 HBi HTk
      clear hq
      go_upto_region 4 with fail
      go_cut [6] (fun s6 wx => ∃ b6 : Nat, s6 = .pointer (some ⟨b6, 0, none⟩) ∧ RowKit.Hid (wx.heap[b6]? = some (.cells #[.int .i64 qk, .int .i64 z1, .string qt, .slice A3 n3 c3] 41 (0, 0))) ∧ RowKit.Hid (wx.ownsRow w0.heap.size 9 1 v0 i (vs o)) ∧ RowKit.Hid (Below w0.heap.size w0 wx))
      case first =>
        go_wp2
        go_meet
        exact ⟨_, rfl, Lib.hid (heap_alloc_new wr _), Lib.hid (HO0.out.alloc _), Lib.hid (HB.out.alloc hzr _)⟩
      case rest =>
        obtain ⟨b6, rfl, HX6, HO1, HB1⟩ := hcut
        have hz1c := HB1.out.size
        obtain ⟨x0, x1, x2, x3⟩ := facts4 HX6.out
        clear g0 g1 g2 g3
        by_cases h4 : qk = 4
        · subst h4
          have hO2 := Lib.hid (show o ++ [qt] = (ks.take (i + 1)).map (fun x => x.2) by rw [HTk.out, List.map_append, ← HO.out]; rfl)
          have hA2 := Lib.hid (show ∀ x ∈ ks.take (i + 1), x.1 = 4 by
            intro x hx
            rw [HTk.out] at hx
            rcases List.mem_append.1 hx with h | h
            · exact HA4.out x h
            · rw [List.mem_singleton.1 h])
          go_wp2_with (first | ((at_builtin; refine wpList_append_own _ rfl (.tmp 17) (.tmp 20) 30 rfl w0.heap.size 9 i0 _ 1 16 Tryd.underlying30 hi hz0 hz1 hz2 rfl (by decide) v0 (i) (vs (o)) rfl (HO1.out.alloc _) ⟨wc.heap.size, 0, none⟩ 1 1 [.string qt] rfl rfl (by intro j u hj; cases j with | zero => (simp at hj; subst hj; simp [Addr.add]) | succ => simp at hj) (by intro u hu; simp at hu; subst hu; rfl) (by (try simp only [List.length_append, List.length_cons, List.length_nil]); unfold maxLen; omega) (by (try simp only [List.length_append, List.length_cons, List.length_nil]); omega) (by have := (HB1.out).size; rw [alloc_size]; omega) ?_; intro v2 w2 hown hg _; have HO2 := Lib.hid (push_row hown); have HB2 := Lib.hid (push_below HB1.out HO1.out hg); clear hown hg)))
          exact ⟨⟨v2, i + 1, o ++ [qt], rfl, by omega, by go_num, hO2, hA2, HO2, HB2⟩, by simp [intOf]; omega⟩
        · have h4b : (qk == 4) = false := by simp [h4]
          have HE := Lib.hid (HBi.out h4)
          go_wp2
          go_ret2
          exact told_end HE.out (World.ownsRow_nil _ _ _ _) (HB0.out.trans (HB1.out.mono (by omega)))
    · have HE := Lib.hid (HGood.out (fun x hx => HA4.out x (by rw [List.take_of_length_le (by rw [← HN.out]; omega)]; exact hx)))
      have ho2 : o = ks.map (fun x => x.2) := by rw [HO.out, List.take_of_length_le (by rw [← HN.out]; omega)]
      subst ho2
      obtain ⟨x0, x1, x2, x3⟩ := facts4 (keep_block HB.out HX0.out)
      go_wp2
      go_quiet (fail)
      go_wp2
      go_ret2
      exact told_end HE.out (own_mono (show (wr.drewN _).ownsRow _ _ _ _ _ _ from HO0.out) (by omega)) (Go.below_drewN HBw.out _)
end Go.Proofs.YtdfijefgklhmdaaDoor.T
