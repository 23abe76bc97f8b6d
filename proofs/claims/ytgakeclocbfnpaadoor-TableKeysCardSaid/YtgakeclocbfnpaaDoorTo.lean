import Derived.Deep.DeepCutAuto
import Derived.Laws.OwnMore
import Derived.OwnWalk
import Derived.Test.YtgakeclocbfnpaaDoorProg
import Derived.Test.YtgakeclocbfnpaaDoorShelf
import Derived.Test.YtgakeclocbfnpaaDoorMem
import Derived.Test.YtgakeclocbfnpaaDoorTa
import Derived.Test.YtgakeclocbfnpaaDoorTa2
import Derived.Test.YtgakeclocbfnpaaDoorTb
import Derived.Test.YtgakeclocbfnpaaDoorTc
import Derived.Test.YtgakeclocbfnpaaDoorTd
import Derived.Test.YtgakeclocbfnpaaDoorTe
import Derived.Test.YtgakeclocbfnpaaDoorTf
import Derived.Test.YtgakeclocbfnpaaDoorTg
import Derived.Test.YtgakeclocbfnpaaDoorTh
import Derived.Test.YtgakeclocbfnpaaDoorTi
import Derived.Test.YtgakeclocbfnpaaDoorTja
import Derived.Test.YtgakeclocbfnpaaDoorTj
import Derived.Test.YtgakeclocbfnpaaDoorTka
import Derived.Test.YtgakeclocbfnpaaDoorTkb
import Derived.Test.YtgakeclocbfnpaaDoorTk
import Derived.Test.YtgakeclocbfnpaaDoorTl
import Derived.Test.YtgakeclocbfnpaaDoorTm
import Derived.Test.YtgakeclocbfnpaaDoorTn
import Derived.WalkKit
import Derived.Outline
import Derived.WalkLawsBesides
import Derived.Deep.QuietTactic
import Derived.BigQuiet
import Derived.Lib.Hide
import Derived.Handy
import Derived.Deep.RegionHeld3
import Derived.Deep.DrawnRows
import Derived.KernelRfl
import Derived.Great.Walk
import Derived.Test.YtgakeclocbfnpaaDoorOwn
namespace Go.Proofs.YtgakeclocbfnpaaDoor.T
open Go Go.RowKit Mem Own
set_option maxRecDepth 100000
set_option maxHeartbeats 1000000
set_option linter.unusedVariables false
set_option linter.unusedSimpArgs false

/-- ref12.Keys -/
theorem rkeys_is (A : Option Addr) (l : List ByteArray) (c : Nat) (w : World) (ha : Rd w A l) (hn : l.length ≤ 200) (hz : ∀ x ∈ l, x.size ≤ maxLen) :
    Calls Tryd.prog 18 #[.slice A l.length c] w (KeysOut l w) := by
  obtain ⟨i0, hi, hz0, hz1, hz2⟩ := info_parts info9
  have HC := Lib.hid (rcheck_is A l c w ha (by omega) hz)
  obtain ⟨s, hs⟩ : ∃ s, s = (chk l).1 := ⟨_, rfl⟩
  obtain ⟨code, hcode⟩ : ∃ code, code = (chk l).2 := ⟨_, rfl⟩
  have HS := Lib.hid hs; have HE := Lib.hid hcode; have HA := Lib.hid ha
  clear hs hcode ha hz
  go_enter Tryd.func18, Tryd.ntmps18
  go_upto_region 2 with fail
  go_cut [4, 5] (fun s3 s4 wx => ∃ b3 : Nat, s3 = .pointer (some ⟨b3, 0, none⟩) ∧ s4 = .int .i64 code ∧ w.heap.size ≤ b3 ∧ RowKit.Hid (wx.heap[b3]? = some (.cells #[.string s.name, .int .i64 s.least, .int .i64 s.most, .int .i64 s.first, .int .i64 s.last, .int .i64 s.step, .bool s.writes] 25 (0, 0))) ∧ RowKit.Hid (Below w.heap.size w wx))
  case first =>
    go_wp2_with fail
    refine Calls.mono HC.out ?_
    rintro e w1 ⟨rfl, hb1⟩
    rw [← HE.out, ← HS.out]
    have HB1 := Lib.hid hb1
    clear hb1
    go_wp2
    go_meet
    exact keys_first HB1.out
  case rest =>
    obtain ⟨b3, rfl, rfl, hb3, HY, HB⟩ := hcut
    obtain ⟨e0, e1, e2, e3, e4, e5, e6⟩ := facts7 HY.out
    have hb3c : b3 < wc.heap.size := lt_of_block HY.out
    by_cases hno : (chk l).2 ≠ 0 ∨ (chk l).1.first = 0
    · have HN := Lib.hid (keys_none hno)
      have m12 : (code == 0) = false ∨ ((code == 0) = true ∧ s.first ≤ 0) := by
        rw [HE.out, HS.out]
        rcases hno with h | h
        · left; simpa using h
        · by_cases h2 : (chk l).2 = 0
          · right; exact ⟨by simp [h2], by omega⟩
          · left; simpa using h2
      clear hno
      go_wp2_with fail
      go_loopw [3, 6] (fun v i wr => ∃ (k : Nat), 1 ≤ k ∧ k ≤ l.length + 1 ∧ i = .int .i64 k ∧ v = .slice none 0 0 ∧ RowKit.Hid (Below wc.heap.size wc wr)) (fun _ i _ => l.length + 1 - (intOf i).toNat)
      case atStart => exact ⟨1, by omega, by omega, rfl, rfl, Lib.hid (Below.refl _ _)⟩
      case round =>
        obtain ⟨k, hk1, hk2, rfl, rfl, HB0⟩ := hrel
        by_cases hlt : k < l.length
        · have g3 := cell_below HB0.out e3
          have g4 := cell_below HB0.out e4
          have g5 := cell_below HB0.out e5
          by_cases q1 : (k : Int) ≤ s.last
          · rcases m12 with m1 | ⟨m1, m2⟩
            all_goals
              go_wp2
              exact ⟨⟨k + 1, by omega, by omega, by go_num, rfl, HB0⟩, by simp [intOf]; omega⟩
          · by_cases q2 : s.last = -1
            · have q3 : (s.last == -1) = true := by simp [q2]
              clear q2
              rcases m12 with m1 | ⟨m1, m2⟩
              all_goals
                go_wp2
                exact ⟨⟨k + 1, by omega, by omega, by go_num, rfl, HB0⟩, by simp [intOf]; omega⟩
            · have q3 : (s.last == -1) = false := by simp [q2]
              clear q2
              rcases m12 with m1 | ⟨m1, m2⟩
              all_goals
                go_wp2
                exact ⟨⟨k + 1, by omega, by omega, by go_num, rfl, HB0⟩, by simp [intOf]; omega⟩
        · have HN2 := Lib.hid (HN.out l.length)
          clear m12
          go_wp2
          go_ret
          exact out_none HN2.out (HB.out.trans (HB0.out.mono HB.out.size))
    · have hcz : (chk l).2 = 0 := by by_cases h : (chk l).2 = 0; exact h; exact absurd (.inl h) hno
      have hfz : (chk l).1.first ≠ 0 := fun h => hno (.inr h)
      obtain ⟨N, st, hctx, -, -⟩ := ctx_of hcz hfz
      rw [← HS.out] at hctx
      have m1 : (code == 0) = true := by rw [HE.out, hcz]; rfl
      have hs1 := hctx.s1
      have hs2 := hctx.s2
      have hNl := hctx.lt
      rw [hctx.fi] at e3
      rw [hctx.sp] at e5
      have HX := Lib.hid hctx
      clear hno hcz hfz hctx
      go_wp2_with fail
      go_loopw [3, 6] (fun v i wr => ∃ (v0 : Value) (k n : Nat) (o : List ByteArray), v0 = v ∧ 1 ≤ k ∧ k ≤ l.length + 1 ∧ i = .int .i64 k ∧ n ≤ k ∧ RowKit.Hid (o.length = n) ∧ RowKit.Hid (o = keyUpTo l k) ∧ RowKit.Hid (wr.ownsRow wc.heap.size 9 1 v n (vs o)) ∧ RowKit.Hid (Below wc.heap.size wc wr)) (fun _ i _ => l.length + 1 - (intOf i).toNat)
      case atStart => exact ⟨_, 1, 0, [], rfl, by omega, by omega, rfl, by omega, Lib.hid rfl, Lib.hid (keyUpTo_one l).symm, Lib.hid (World.ownsRow_nil _ _ _ _), Lib.hid (Below.refl _ _)⟩
      case round =>
        obtain ⟨v0, k, n, o, rfl, hk1, hk2, rfl, hnk, hol, ho, HO0, HB0⟩ := hrel
        by_cases hlt : k < l.length
        · have g3 := cell_below HB0.out e3
          have g4 := cell_below HB0.out e4
          have g5 := cell_below HB0.out e5
          obtain ⟨b1, o1, rfl⟩ := HA.out.addr (by omega)
          have h0 := cell_below HB0.out (cell_below HB.out (HA.out.cell hlt))
          obtain ⟨x, hx⟩ : ∃ x, x = l[k] := ⟨_, rfl⟩
          rw [← hx] at h0
          have HX0 := Lib.hid hx
          have n1 : ((st : Int) == 0) = false := by simp; omega
          have n2 : 0 ≤ (k : Int) - 1 := by omega
          have HPK := Lib.hid (HX.out.pick hk1 hlt)
          have HAT := Lib.hid (HX.out.at' k hk1 hlt)
          clear hx
          by_cases hlast : k ≤ N
          · have hq := HAT.out.2 hlast
            by_cases hr : (k - 1) % st = 0
            · have hp := Lib.hid (HPK.out.2 ⟨hlast, hr⟩)
              have r1 : (((k : Int) - 1) % (st : Int) == 0) = true := by rw [show (k : Int) - 1 = ((k - 1 : Nat) : Int) by omega, ← Int.natCast_emod, hr]; rfl
              have r2 : (((k : Int) - 1).tmod (st : Int) == 0) = true := by rw [Int.tmod_eq_emod_of_nonneg n2]; exact r1
              clear hr
              by_cases q1 : (k : Int) ≤ s.last
              · clear hq
                go_wp2_with ((at_builtin; refine wpList_append_own _ rfl (.tmp 54) (.tmp 59) 31 rfl wc.heap.size 9 i0 _ 1 16 Tryd.underlying31 hi hz0 hz1 hz2 rfl (by decide) v0 (n) (vs (o)) rfl (HO0.out.alloc _) ⟨wr.heap.size, 0, none⟩ 1 1 [.string x] rfl rfl (by intro j u hj; cases j with | zero => (simp at hj; subst hj; simp [Addr.add]) | succ => simp at hj) (by intro u hu; simp at hu; subst hu; rfl) (by (try simp only [List.length_append, List.length_cons, List.length_nil]); unfold maxLen; omega) (by (try simp only [List.length_append, List.length_cons, List.length_nil]); omega) (by have := (HB0.out).size; rw [alloc_size]; omega) ?_; intro v1 w1 hown hg _; have HO1 := Lib.hid (push_row hown); have HB1 := Lib.hid (push_below HB0.out HO0.out hg); clear hown hg))
                exact ⟨⟨_, k + 1, n + 1, o ++ [x], rfl, by omega, by omega, by go_num, by omega, Lib.hid (by simp [hol.out]), Lib.hid (by rw [key_yes hp.out hlt, ← ho.out, HX0.out]), HO1, HB1⟩, by simp [intOf]; omega⟩
              · have q3 : (s.last == -1) = true := by simp; rcases hq with h | h; exact absurd h q1; exact h
                clear hq
                go_wp2_with ((at_builtin; refine wpList_append_own _ rfl (.tmp 54) (.tmp 59) 31 rfl wc.heap.size 9 i0 _ 1 16 Tryd.underlying31 hi hz0 hz1 hz2 rfl (by decide) v0 (n) (vs (o)) rfl (HO0.out.alloc _) ⟨wr.heap.size, 0, none⟩ 1 1 [.string x] rfl rfl (by intro j u hj; cases j with | zero => (simp at hj; subst hj; simp [Addr.add]) | succ => simp at hj) (by intro u hu; simp at hu; subst hu; rfl) (by (try simp only [List.length_append, List.length_cons, List.length_nil]); unfold maxLen; omega) (by (try simp only [List.length_append, List.length_cons, List.length_nil]); omega) (by have := (HB0.out).size; rw [alloc_size]; omega) ?_; intro v1 w1 hown hg _; have HO1 := Lib.hid (push_row hown); have HB1 := Lib.hid (push_below HB0.out HO0.out hg); clear hown hg))
                exact ⟨⟨_, k + 1, n + 1, o ++ [x], rfl, by omega, by omega, by go_num, by omega, Lib.hid (by simp [hol.out]), Lib.hid (by rw [key_yes hp.out hlt, ← ho.out, HX0.out]), HO1, HB1⟩, by simp [intOf]; omega⟩
            · have hp := Lib.hid (fun h => hr (HPK.out.1 h).2 : ¬ pick l k)
              have r1 : (((k : Int) - 1) % (st : Int) == 0) = false := by rw [show (k : Int) - 1 = ((k - 1 : Nat) : Int) by omega, ← Int.natCast_emod]; simp; omega
              have r2 : (((k : Int) - 1).tmod (st : Int) == 0) = false := by rw [Int.tmod_eq_emod_of_nonneg n2]; exact r1
              clear hr
              by_cases q1 : (k : Int) ≤ s.last
              · clear hq
                go_wp2
                exact ⟨⟨_, k + 1, n, o, rfl, by omega, by omega, by go_num, by omega, hol, Lib.hid (by rw [key_no hp.out, ← ho.out]), HO0, HB0⟩, by simp [intOf]; omega⟩
              · have q3 : (s.last == -1) = true := by simp; rcases hq with h | h; exact absurd h q1; exact h
                clear hq
                go_wp2
                exact ⟨⟨_, k + 1, n, o, rfl, by omega, by omega, by go_num, by omega, hol, Lib.hid (by rw [key_no hp.out, ← ho.out]), HO0, HB0⟩, by simp [intOf]; omega⟩
          · have hp := Lib.hid (fun h => hlast (HPK.out.1 h).1 : ¬ pick l k)
            have q1 : ¬ (k : Int) ≤ s.last := fun h => hlast (HAT.out.1 (.inl h))
            have q3 : (s.last == -1) = false := by simp; exact fun h => hlast (HAT.out.1 (.inr h))
            go_wp2
            exact ⟨⟨_, k + 1, n, o, rfl, by omega, by omega, by go_num, by omega, hol, Lib.hid (by rw [key_no hp.out, ← ho.out]), HO0, HB0⟩, by simp [intOf]; omega⟩
        · go_wp2
          go_ret
          exact out_row (ho.out.trans (HX.out.done (by omega))) hol.out HO0.out (HB.out.trans (HB0.out.mono HB.out.size))
end Go.Proofs.YtgakeclocbfnpaaDoor.T
