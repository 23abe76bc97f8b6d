import Derived.Deep.DeepCutAuto
import Derived.Test.YtgakeclocbfnpaaDoorProg
import Derived.Test.YtgakeclocbfnpaaDoorShelf
import Derived.Test.YtgakeclocbfnpaaDoorMem
import Derived.Test.YtgakeclocbfnpaaDoorTa
import Derived.Test.YtgakeclocbfnpaaDoorTa2
import Derived.Test.YtgakeclocbfnpaaDoorTb
import Derived.Test.YtgakeclocbfnpaaDoorTc
import Derived.Test.YtgakeclocbfnpaaDoorTd
import Derived.Test.YtgakeclocbfnpaaDoorTe
import Derived.Test.YtgakeclocbfnpaaDoorTf
import Derived.Test.YtgakeclocbfnpaaDoorTg
import Derived.Test.YtgakeclocbfnpaaDoorTh
import Derived.Test.YtgakeclocbfnpaaDoorTi
import Derived.Test.YtgakeclocbfnpaaDoorTja
import Derived.Test.YtgakeclocbfnpaaDoorTj
import Derived.Test.YtgakeclocbfnpaaDoorTka
import Derived.Test.YtgakeclocbfnpaaDoorTkb
import Derived.WalkKit
import Derived.Outline
import Derived.WalkLawsBesides
import Derived.Deep.QuietTactic
import Derived.BigQuiet
import Derived.Lib.Hide
import Derived.Handy
import Derived.Deep.RegionHeld3
import Derived.Deep.DrawnRows
import Derived.KernelRfl
import Derived.Great.Walk
import Derived.Test.YtgakeclocbfnpaaDoorOwn
namespace Go.Proofs.YtgakeclocbfnpaaDoor.T
open Go Go.RowKit Mem Own
set_option maxRecDepth 100000
set_option maxHeartbeats 1000000
set_option linter.unusedVariables false
set_option linter.unusedSimpArgs false

/-- table.Check -/
theorem check_is (A : Option Addr) (l : List ByteArray) (c : Nat) (w : World) (ha : Rd w A l) (hn : l.length < 2 ^ 62) (hz : ∀ x ∈ l, x.size ≤ maxLen) (hT : U8 w) :
    Calls Tryd.prog 14 #[.slice A l.length c] w fun e w' => e = .returned (.tuple #[spV (chk l).1, .int .i64 (chk l).2]) ∧ Below w.heap.size w w' := by
  cases l with
  | nil =>
    go_enter Tryd.func14, Tryd.ntmps14
    go_wp2
    exact bodyPost_ret (v := .tuple #[spV sp0, .int .i64 120]) (by simp [results, Tryd.results14, go_sem, sp0]) rfl ⟨rfl, (by ((repeat (first | exact Below.refl _ _ | (refine Below.drew ?_) | (refine Go.below_drewN ?_ _) | (refine Below.alloc ?_ (by first | (simp; done) | omega | (simp; omega)) _) | (refine Below.setCell ?_ (by first | (simp; done) | omega | (simp; omega)) _) | (refine Below.trans ?_ (Below.mono (by assumption) (by first | (simp; done) | omega | (simp; omega)))))); done))⟩
  | cons x r =>
    obtain ⟨b, off, rfl, hx⟩ := ha.head
    have hxs := hz x (by simp)
    have hlt := lt_of_cell hx
    have hr : r.length < 4611686018427387903 := by simp at hn; omega
    have hxa := fun o => cell_alloc hx o
    have HT := Lib.hid hT
    obtain ⟨s, hs⟩ : ∃ s, s = fsp x := ⟨_, rfl⟩
    have hok : SpOk s := hs ▸ fsp_ok x
    obtain ⟨le0, le1, mo0, mo1, fi0, fi1, la0, la1, st0, st1, neg, has, non, one, all⟩ := hok
    have HP := Lib.hid (And.intro neg (And.intro has (And.intro non (And.intro one all))))
    have HS := Lib.hid hs
    clear neg has non one all hs hT ha hz hn
    rw [List.length_cons]
    obtain ⟨f, hf⟩ : ∃ f, f = fis x := ⟨_, rfl⟩
    have HF := Lib.hid hf
    clear hf
    go_enter Tryd.func14, Tryd.ntmps14
    go_upto_region 3 with fail
    go_cut [4, 5] (fun s4 s5 wx => ∃ b4 : Nat, s4 = .pointer (some ⟨b4, 0, none⟩) ∧ s5 = .bool f ∧ w.heap.size < b4 ∧ RowKit.Hid (wx.heap[w.heap.size]? = some (.cells #[.string ⟨#[]⟩, .int .i64 0, .int .i64 0, .int .i64 0, .int .i64 0, .int .i64 0, .bool false] 25 (0, 0))) ∧ RowKit.Hid (wx.heap[b4]? = some (.cells #[.string s.name, .int .i64 s.least, .int .i64 s.most, .int .i64 s.first, .int .i64 s.last, .int .i64 s.step, .bool s.writes] 25 (0, 0))) ∧ RowKit.Hid (Below w.heap.size w wx))
    case first =>
      go_wp2_with fail
      refine Calls.mono (find_is x _ hxs (HT.out.below ?_)) ?_
      focus ((repeat (first | exact Below.refl _ _ | (refine Below.drew ?_) | (refine Go.below_drewN ?_ _) | (refine Below.alloc ?_ (by first | (simp; done) | omega | (simp; omega)) _) | (refine Below.setCell ?_ (by first | (simp; done) | omega | (simp; omega)) _) | (refine Below.trans ?_ (Below.mono (by assumption) (by first | (simp; done) | omega | (simp; omega)))))); done)
      rintro e w1 ⟨rfl, hb1⟩
      rw [← HF.out, ← HS.out]
      have HB1 := Lib.hid hb1
      clear hb1
      go_wp2
      go_meet
      exact check_first HB1.out
    case rest =>
      obtain ⟨b4, rfl, rfl, hb4, HX, HY, HB⟩ := hcut
      obtain ⟨d0, d1, d2, d3, d4, d5, d6⟩ := facts7 HX.out; obtain ⟨f0, f1, f2, f3, f4, f5, f6⟩ := free7 HX.out
      obtain ⟨e0, e1, e2, e3, e4, e5, e6⟩ := facts7 HY.out
      cases f
      · have HC := Lib.hid (chk_no (x := x) (r := r) HF.out.symm)
        go_wp2
        refine end7 (u := .int .i64 120) Tryd.results14 ?_ ?_ (set7 _ _ _ _ _ _ _ HX.out) ?_
        · rfl
        · rfl
        · exact ⟨ret_chk HC.out, below_s7 HB.out (Nat.le_refl _)⟩
      · by_cases h1 : (r.length : Int) < s.least
        · have HC := Lib.hid (chk_bad (x := x) (r := r) HF.out.symm (by rw [← HS.out]; intro h; exact absurd h.1 (by omega)))
          go_wp2
          refine end7 (u := .int .i64 121) Tryd.results14 ?_ ?_ (set7 _ _ _ _ _ _ _ HX.out) ?_
          · rfl
          · rfl
          · exact ⟨ret_chk HC.out, below_s7 HB.out (Nat.le_refl _)⟩
        · by_cases h2 : s.most < (r.length : Int)
          · have HC := Lib.hid (chk_bad (x := x) (r := r) HF.out.symm (by rw [← HS.out]; intro h; exact absurd h.2.1 (by omega)))
            go_wp2
            refine end7 (u := .int .i64 121) Tryd.results14 ?_ ?_ (set7 _ _ _ _ _ _ _ HX.out) ?_
            · rfl
            · rfl
            · exact ⟨ret_chk HC.out, below_s7 HB.out (Nat.le_refl _)⟩
          · by_cases h3 : s.last < 0
            · have g1 := HP.out.1 h3
              have g2 := HP.out.2.1 (by omega)
              have n1 : (s.step == 0) = false := by simp; omega
              have n2 : 0 ≤ (r.length : Int) - s.first + 1 := by omega
              have n3 : (r.length : Int) - s.first + 1 = r.length := by omega
              have N3 := Lib.hid n3
              clear n3 g1
              by_cases h4 : (r.length : Int) % s.step = 0
              · have HC := Lib.hid (chk_ok (x := x) (r := r) HF.out.symm (by rw [← HS.out]; exact ⟨by omega, by omega, fun _ => h4⟩))
                have n4 : (((r.length : Int) - s.first + 1) % s.step != 0) = false := by rw [N3.out, h4]; rfl
                have n5 : (((r.length : Int) - s.first + 1).tmod s.step != 0) = false := by rw [Int.tmod_eq_emod_of_nonneg n2, N3.out, h4]; rfl
                clear h4
                go_wp2
                refine end7 (u := .int .i64 0) Tryd.results14 ?_ ?_ (set7 _ _ _ _ _ _ _ HX.out) ?_
                · rfl
                · rfl
                · exact ⟨ret_chk_ok HC.out HS.out, below_s7 HB.out (Nat.le_refl _)⟩
              · have HC := Lib.hid (chk_bad (x := x) (r := r) HF.out.symm (by rw [← HS.out]; intro h; exact h4 (h.2.2 h3)))
                have n4 : (((r.length : Int) - s.first + 1) % s.step != 0) = true := by rw [N3.out]; simpa using h4
                have n5 : (((r.length : Int) - s.first + 1).tmod s.step != 0) = true := by rw [Int.tmod_eq_emod_of_nonneg n2, N3.out]; simpa using h4
                clear h4
                go_wp2
                refine end7 (u := .int .i64 121) Tryd.results14 ?_ ?_ (set7 _ _ _ _ _ _ _ HX.out) ?_
                · rfl
                · rfl
                · exact ⟨ret_chk HC.out, below_s7 HB.out (Nat.le_refl _)⟩
            · have HC := Lib.hid (chk_ok (x := x) (r := r) HF.out.symm (by rw [← HS.out]; exact ⟨by omega, by omega, fun h => absurd h h3⟩))
              go_wp2
              refine end7 (u := .int .i64 0) Tryd.results14 ?_ ?_ (set7 _ _ _ _ _ _ _ HX.out) ?_
              · rfl
              · rfl
              · exact ⟨ret_chk_ok HC.out HS.out, below_s7 HB.out (Nat.le_refl _)⟩
end Go.Proofs.YtgakeclocbfnpaaDoor.T
