import Derived.Deep.DeepCutAuto
import Derived.Laws.OwnMore
import Derived.OwnWalk
import Derived.Test.YtgakeclocbfnpaaDoorProg
import Derived.Test.YtgakeclocbfnpaaDoorShelf
import Derived.Test.YtgakeclocbfnpaaDoorMem
import Derived.Test.YtgakeclocbfnpaaDoorTa
import Derived.Test.YtgakeclocbfnpaaDoorTa2
import Derived.Test.YtgakeclocbfnpaaDoorTb
import Derived.Test.YtgakeclocbfnpaaDoorTc
import Derived.Test.YtgakeclocbfnpaaDoorTd
import Derived.Test.YtgakeclocbfnpaaDoorTe
import Derived.Test.YtgakeclocbfnpaaDoorTf
import Derived.Test.YtgakeclocbfnpaaDoorTg
import Derived.Test.YtgakeclocbfnpaaDoorTh
import Derived.Test.YtgakeclocbfnpaaDoorTi
import Derived.Test.YtgakeclocbfnpaaDoorTja
import Derived.Test.YtgakeclocbfnpaaDoorTj
import Derived.Test.YtgakeclocbfnpaaDoorTka
import Derived.Test.YtgakeclocbfnpaaDoorTkb
import Derived.Test.YtgakeclocbfnpaaDoorTk
import Derived.Test.YtgakeclocbfnpaaDoorTm
import Derived.WalkKit
import Derived.Outline
import Derived.WalkLawsBesides
import Derived.Deep.QuietTactic
import Derived.BigQuiet
import Derived.Lib.Hide
import Derived.Handy
import Derived.Deep.RegionHeld3
import Derived.Deep.DrawnRows
import Derived.KernelRfl
import Derived.Great.Walk
import Derived.Test.YtgakeclocbfnpaaDoorOwn
namespace Go.Proofs.YtgakeclocbfnpaaDoor.T
open Go Go.RowKit Mem Own
set_option maxRecDepth 100000
set_option maxHeartbeats 1000000
set_option linter.unusedVariables false
set_option linter.unusedSimpArgs false

theorem info9 : (Tryd.prog.info? 9).map (fun i => (i.zero, i.size, i.bytes)) = some (some (.string ByteArray.empty), 1, 16) := by kernel_rfl
theorem keys_first {w w1 : World} {s : Sp} {c : Int} (hb : Below w.heap.size w w1) :
    ∃ b3 : Nat, Value.pointer (some ⟨w1.heap.size, 0, none⟩) = .pointer (some ⟨b3, 0, none⟩) ∧ Value.int .i64 c = .int .i64 c ∧ w.heap.size ≤ b3 ∧
      RowKit.Hid ((w1.alloc (.cells #[.string s.name, .int .i64 s.least, .int .i64 s.most, .int .i64 s.first, .int .i64 s.last, .int .i64 s.step, .bool s.writes] 25)).heap[b3]? = some (.cells #[.string s.name, .int .i64 s.least, .int .i64 s.most, .int .i64 s.first, .int .i64 s.last, .int .i64 s.step, .bool s.writes] 25 (0, 0))) ∧
      RowKit.Hid (Below w.heap.size w (w1.alloc (.cells #[.string s.name, .int .i64 s.least, .int .i64 s.most, .int .i64 s.first, .int .i64 s.last, .int .i64 s.step, .bool s.writes] 25))) :=
  ⟨_, rfl, rfl, hb.size, Lib.hid (heap_alloc_new _ _), Lib.hid (hb.alloc hb.size _)⟩
/-- What Keys leaves. -/
def KeysOut (l : List ByteArray) (w : World) (e : Ending) (w' : World) : Prop :=
  ∃ C k, e = .returned (.slice C (keysOf l).length k) ∧ RowKit.Hid (Rd w' C (keysOf l)) ∧ Below w.heap.size w w'
theorem out_none {l : List ByteArray} {w w' : World} (h : keysOf l = []) (hb : Below w.heap.size w w') : KeysOut l w (.returned (.slice none 0 0)) w' :=
  ⟨none, 0, by rw [h]; rfl, Lib.hid (.inl h), hb⟩
theorem out_row {B : Nat} {l : List ByteArray} {w w' : World} {v : Value} {n : Nat} {o : List ByteArray} (h : o = keysOf l) (hn : o.length = n) (hown : w'.ownsRow B 9 1 v n (vs o)) (hb : Below w.heap.size w w') : KeysOut l w (.returned v) w' := by
  obtain ⟨A, c, rfl⟩ := own_slice hown
  subst hn
  subst h
  exact ⟨A, c, rfl, Lib.hid (own_rd hown).1, hb⟩

theorem key_mod {k st : Nat} (h1 : 1 ≤ k) (hs1 : 1 ≤ st) (hs2 : st ≤ 2) (h : (k - 1) % st = 0) : (k + st - 1) % st = 0 := by
  rw [show k + st - 1 = (k - 1) + st by omega, Nat.add_mod_right]; exact h
/-- table.Keys -/
theorem keys_is (A : Option Addr) (l : List ByteArray) (c : Nat) (w : World) (ha : Rd w A l) (hn : l.length ≤ 200) (hz : ∀ x ∈ l, x.size ≤ maxLen) (hT : U8 w) :
    Calls Tryd.prog 17 #[.slice A l.length c] w (KeysOut l w) := by
  obtain ⟨i0, hi, hz0, hz1, hz2⟩ := info_parts info9
  have HC := Lib.hid (check_is A l c w ha (by omega) hz hT)
  obtain ⟨s, hs⟩ : ∃ s, s = (chk l).1 := ⟨_, rfl⟩
  obtain ⟨code, hcode⟩ : ∃ code, code = (chk l).2 := ⟨_, rfl⟩
  have HS := Lib.hid hs; have HE := Lib.hid hcode; have HA := Lib.hid ha
  clear hs hcode ha hz hT
  go_enter Tryd.func17, Tryd.ntmps17
  go_upto_region 1 with fail
  go_cut [3, 4] (fun s3 s4 wx => ∃ b3 : Nat, s3 = .pointer (some ⟨b3, 0, none⟩) ∧ s4 = .int .i64 code ∧ w.heap.size ≤ b3 ∧ RowKit.Hid (wx.heap[b3]? = some (.cells #[.string s.name, .int .i64 s.least, .int .i64 s.most, .int .i64 s.first, .int .i64 s.last, .int .i64 s.step, .bool s.writes] 25 (0, 0))) ∧ RowKit.Hid (Below w.heap.size w wx))
  case first =>
    go_wp2_with fail
    refine Calls.mono HC.out ?_
    rintro e w1 ⟨rfl, hb1⟩
    rw [← HE.out, ← HS.out]
    have HB1 := Lib.hid hb1
    clear hb1
    go_wp2
    go_meet
    exact keys_first HB1.out
  case rest =>
    obtain ⟨b3, rfl, rfl, hb3, HY, HB⟩ := hcut
    obtain ⟨e0, e1, e2, e3, e4, e5, e6⟩ := facts7 HY.out
    by_cases hc : code = 0
    · have HC0 := Lib.hid hc
      have m1 : (code != 0) = false := by simp [hc]
      clear hc
      by_cases hf : s.first = 0
      · have HF := Lib.hid hf
        have m2 : (s.first == 0) = true := by simp [hf]
        clear hf
        have HN := Lib.hid (keys_none (l := l) (.inr (by rw [← HS.out]; exact HF.out)) l.length)
        go_wp2
        go_ret
        exact out_none HN.out HB.out
      · have m2 : (s.first == 0) = false := by simp [hf]
        obtain ⟨N, st, hctx, hN1, hN2⟩ := ctx_of (l := l) (by rw [← HE.out]; exact HC0.out) (by rw [← HS.out]; exact hf)
        rw [← HS.out] at hctx hN1 hN2
        clear hf
        have hs1 := hctx.s1
        have hs2 := hctx.s2
        have hNl := hctx.lt
        rw [hctx.fi] at e3
        rw [hctx.sp] at e5
        have HX := Lib.hid hctx
        have hb3c : b3 < wc.heap.size := lt_of_block HY.out
        clear hctx
        clear m2
        by_cases hl : s.last < 0
        · have hN := hN1 hl
          clear hN1 hN2
          go_wp2_with fail
          go_loopw [6, 7] (fun v i wr => ∃ (v0 : Value) (k n : Nat) (o : List ByteArray), v0 = v ∧ 1 ≤ k ∧ k ≤ N + 2 ∧ i = .int .i64 k ∧ n ≤ k ∧ RowKit.Hid ((k - 1) % st = 0) ∧ RowKit.Hid (o.length = n) ∧ RowKit.Hid (o = keyUpTo l k) ∧ RowKit.Hid (wr.ownsRow wc.heap.size 9 1 v n (vs o)) ∧ RowKit.Hid (Below wc.heap.size wc wr)) (fun _ i _ => N + 2 - (intOf i).toNat)
          case atStart => exact ⟨_, 1, 0, [], rfl, by omega, by omega, rfl, by omega, Lib.hid (by simp), Lib.hid rfl, Lib.hid (keyUpTo_one l).symm, Lib.hid (World.ownsRow_nil _ _ _ _), Lib.hid (Below.refl _ _)⟩
          case round =>
            obtain ⟨v0, k, n, o, rfl, hk1, hk2, rfl, hnk, hm, hol, ho, HO0, HB0⟩ := hrel
            by_cases hlt : k ≤ N
            · have hkl : k < l.length := by omega
              obtain ⟨b1, o1, rfl⟩ := HA.out.addr (by omega)
              have h0 := cell_below HB0.out (cell_below HB.out (HA.out.cell hkl))
              obtain ⟨x, hx⟩ : ∃ x, x = l[k] := ⟨_, rfl⟩
              rw [← hx] at h0
              have g5 := cell_below HB0.out e5
              have HX0 := Lib.hid hx
              clear hx
              go_wp2_with (first | ((at_builtin; refine wpList_append_own _ rfl (.tmp 36) (.tmp 41) 31 rfl wc.heap.size 9 i0 _ 1 16 Tryd.underlying31 hi hz0 hz1 hz2 rfl (by decide) v0 (n) (vs (o)) rfl (HO0.out.alloc _) ⟨wr.heap.size, 0, none⟩ 1 1 [.string x] rfl rfl (by intro j u hj; cases j with | zero => (simp at hj; subst hj; simp [Addr.add]) | succ => simp at hj) (by intro u hu; simp at hu; subst hu; rfl) (by (try simp only [List.length_append, List.length_cons, List.length_nil]); unfold maxLen; omega) (by (try simp only [List.length_append, List.length_cons, List.length_nil]); omega) (by have := (HB0.out).size; rw [alloc_size]; omega) ?_; intro v1 w1 hown hg _; have HO1 := Lib.hid (push_row hown); have HB1 := Lib.hid (push_below HB0.out HO0.out hg); clear hown hg); have g5 := cell_below HB1.out e5))
              exact ⟨⟨_, k + st, n + 1, o ++ [x], rfl, by omega, by omega, by go_num, by omega, Lib.hid (key_mod hk1 hs1 hs2 hm.out), Lib.hid (by simp [hol.out]), Lib.hid (by rw [HX.out.step hk1 hlt hm.out, ← ho.out, HX0.out]), HO1, HB1⟩, by simp [intOf]; omega⟩
            · go_wp2
              go_ret
              exact out_row (ho.out.trans (HX.out.done (by omega))) hol.out HO0.out (HB.out.trans (HB0.out.mono HB.out.size))
        · obtain ⟨hN, h1⟩ := hN2 (by omega)
          rw [h1] at e4
          clear hN1 hN2 hl h1
          go_wp2_with fail
          go_loopw [6, 7] (fun v i wr => ∃ (v0 : Value) (k n : Nat) (o : List ByteArray), v0 = v ∧ 1 ≤ k ∧ k ≤ N + 2 ∧ i = .int .i64 k ∧ n ≤ k ∧ RowKit.Hid ((k - 1) % st = 0) ∧ RowKit.Hid (o.length = n) ∧ RowKit.Hid (o = keyUpTo l k) ∧ RowKit.Hid (wr.ownsRow wc.heap.size 9 1 v n (vs o)) ∧ RowKit.Hid (Below wc.heap.size wc wr)) (fun _ i _ => N + 2 - (intOf i).toNat)
          case atStart => exact ⟨_, 1, 0, [], rfl, by omega, by omega, rfl, by omega, Lib.hid (by simp), Lib.hid rfl, Lib.hid (keyUpTo_one l).symm, Lib.hid (World.ownsRow_nil _ _ _ _), Lib.hid (Below.refl _ _)⟩
          case round =>
            obtain ⟨v0, k, n, o, rfl, hk1, hk2, rfl, hnk, hm, hol, ho, HO0, HB0⟩ := hrel
            by_cases hlt : k ≤ N
            · have hkl : k < l.length := by omega
              obtain ⟨b1, o1, rfl⟩ := HA.out.addr (by omega)
              have h0 := cell_below HB0.out (cell_below HB.out (HA.out.cell hkl))
              obtain ⟨x, hx⟩ : ∃ x, x = l[k] := ⟨_, rfl⟩
              rw [← hx] at h0
              have g5 := cell_below HB0.out e5
              have HX0 := Lib.hid hx
              clear hx
              go_wp2_with (first | ((at_builtin; refine wpList_append_own _ rfl (.tmp 36) (.tmp 41) 31 rfl wc.heap.size 9 i0 _ 1 16 Tryd.underlying31 hi hz0 hz1 hz2 rfl (by decide) v0 (n) (vs (o)) rfl (HO0.out.alloc _) ⟨wr.heap.size, 0, none⟩ 1 1 [.string x] rfl rfl (by intro j u hj; cases j with | zero => (simp at hj; subst hj; simp [Addr.add]) | succ => simp at hj) (by intro u hu; simp at hu; subst hu; rfl) (by (try simp only [List.length_append, List.length_cons, List.length_nil]); unfold maxLen; omega) (by (try simp only [List.length_append, List.length_cons, List.length_nil]); omega) (by have := (HB0.out).size; rw [alloc_size]; omega) ?_; intro v1 w1 hown hg _; have HO1 := Lib.hid (push_row hown); have HB1 := Lib.hid (push_below HB0.out HO0.out hg); clear hown hg); have g5 := cell_below HB1.out e5))
              exact ⟨⟨_, k + st, n + 1, o ++ [x], rfl, by omega, by omega, by go_num, by omega, Lib.hid (key_mod hk1 hs1 hs2 hm.out), Lib.hid (by simp [hol.out]), Lib.hid (by rw [HX.out.step hk1 hlt hm.out, ← ho.out, HX0.out]), HO1, HB1⟩, by simp [intOf]; omega⟩
            · go_wp2
              go_ret
              exact out_row (ho.out.trans (HX.out.done (by omega))) hol.out HO0.out (HB.out.trans (HB0.out.mono HB.out.size))
    · have m1 : (code != 0) = true := by simp [hc]
      have HN := Lib.hid (keys_none (l := l) (.inl (by rw [← HE.out]; exact hc)) l.length)
      clear hc
      go_wp2
      go_ret
      exact out_none HN.out HB.out
end Go.Proofs.YtgakeclocbfnpaaDoor.T
