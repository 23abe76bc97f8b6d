import Derived.Deep.DeepCutAuto
import Derived.Laws.OwnMore
import Derived.OwnWalk
import Derived.Lib.AppendStr
import Derived.Lib.SliceRun
import Derived.Lib.SmallJoins
import Derived.IntWalk
import Derived.Lib.ItoaLen
import Derived.Test.YtdfijefgklhmdaaDoorProg
import Derived.Test.YtdfijefgklhmdaaDoorShelf
import Derived.Test.YtdfijefgklhmdaaDoorMem
import Derived.Test.YtdfijefgklhmdaaDoorR1
import Derived.Test.YtdfijefgklhmdaaDoorRa
import Derived.Test.YtdfijefgklhmdaaDoorRb
import Derived.WalkKit
import Derived.Outline
import Derived.WalkLawsBesides
import Derived.Deep.QuietTactic
import Derived.BigQuiet
import Derived.Lib.Hide
import Derived.Handy
import Derived.Deep.RegionHeld3
import Derived.Deep.DrawnRows
import Derived.KernelRfl
import Derived.Great.Walk
import Derived.Test.YtdfijefgklhmdaaDoorOwn
namespace Go.Proofs.YtdfijefgklhmdaaDoor.T
open Go Go.RowKit Go.Sort Mem Own
set_option maxRecDepth 100000
set_option maxHeartbeats 1000000
set_option linter.unusedVariables false
set_option linter.unusedSimpArgs false

theorem own_mono {w : World} {base base' : Nat} {T : TypeId} {sz : Nat} {v : Value} {n : Nat} {xs : List Value} (h : w.ownsRow base T sz v n xs) (hb : base' ≤ base) : w.ownsRow base' T sz v n xs :=
  ⟨h.1, h.2.imp id fun ⟨g, cap, cur, h1, h2, h3⟩ => ⟨g, cap, cur, h1, Nat.le_trans hb h2, h3⟩⟩
/-- reshard.New -/
theorem new_is (A : Option Addr) (l : List Mv) (c : Nat) (B T : Int) (w : World) (ha : RdM w A l) (hc : l.length ≤ c) (hcm : c ≤ maxLen) : Calls Tryd.prog 9 #[.slice A l.length c, .int .i64 B, .int .i64 T] w (NewOut l B T w) := by
  have HA := Lib.hid ha
  clear ha
  by_cases hlong : 1000 < l.length
  · have HE := Lib.hid (newErr_long (B := B) (T := T) hlong)
    go_enter Tryd.func9, Tryd.ntmps9
    go_wp2
    go_ret2
    exact new_bad HE.out (by decide) (Below.refl _ _)
  · have hshort : l.length ≤ 1000 := by omega
    obtain ⟨N, hN⟩ : ∃ N, N = l.length := ⟨_, rfl⟩
    have HN := Lib.hid hN
    rw [← hN] at hc hshort hlong ⊢
    clear hN
    go_enter Tryd.func9, Tryd.ntmps9
    go_wp2_with fail
    go_loopw [16] (fun x wr => ∃ i : Nat, i ≤ N ∧ x = .int .i64 i ∧ RowKit.Hid (∀ j, j < i → okAt l j) ∧ RowKit.Hid (Below w.heap.size w wr)) (fun x _ => N - (intOf x).toNat)
    case atStart => exact ⟨0, Nat.zero_le _, rfl, Lib.hid (fun j h => by omega), Lib.hid (Below.refl _ _)⟩
    case round =>
      obtain ⟨i, hi, rfl, HOK, HB⟩ := hrel
      have hzr := HB.out.size
      by_cases hlt : i < N
      · have hlt2 := Lib.hid (show i < l.length by rw [← HN.out]; exact hlt)
        obtain ⟨b, off, rfl⟩ := HA.out.addr (Nat.zero_lt_of_lt hlt2.out)
        obtain ⟨g0, g1, g2⟩ := (HA.out.below HB.out).cell hlt2.out
        have HBad := Lib.hid (fun h => newErr_bad (B := B) (T := T) hlt2.out h)
        have HStep := Lib.hid (show okM (l[i]'hlt2.out) ∧ (¬ ∃ m' ∈ l.take i, m'.s = (l[i]'hlt2.out).s) → ∀ j, j < i + 1 → okAt l j from fun h j hj => by
          rcases Nat.lt_succ_iff_lt_or_eq.1 hj with h' | rfl
          · exact HOK.out j h'
          · intro m hm
            rw [List.getElem?_eq_getElem hlt2.out] at hm
            injection hm with hm
            rw [← hm]; exact h)
        obtain ⟨m, hm⟩ : ∃ m, m = l[i]'hlt2.out := ⟨_, rfl⟩
        rw [← hm] at g0 g1 g2 HBad HStep
        obtain ⟨s, f, t⟩ := m
        dsimp only at g0 g1 g2 HBad HStep
        clear hm
        go_upto_region 7 with (go_at_call 19; refine Calls.mono (twice_is b off i c l s ⟨wr.heap.size, 0, none⟩ _ (HA.out.below ?_) (Nat.le_of_lt hlt2.out) ?_ (by omega)) ?_; (focus ((repeat (first | exact Below.refl _ _ | (refine Below.drew ?_) | (refine Go.below_drewN ?_ _) | (refine Below.alloc ?_ (by first | (simp; done) | omega | (simp; omega)) _) | (refine Below.setCell ?_ (by first | (simp; done) | omega | (simp; omega)) _) | (refine Below.trans ?_ (Below.mono (by assumption) (by first | (simp; done) | omega | (simp; omega)))))); done)); (focus (simp [go_sem]; done)); rintro e w1 ⟨r, rfl, hr, hb1⟩; have HR := Lib.hid hr; clear hr)
        have HB1 := Lib.hid (show Below w.heap.size w w1 from (by ((repeat (first | exact Below.refl _ _ | (refine Below.drew ?_) | (refine Go.below_drewN ?_ _) | (refine Below.alloc ?_ (by first | (simp; done) | omega | (simp; omega)) _) | (refine Below.setCell ?_ (by first | (simp; done) | omega | (simp; omega)) _) | (refine Below.trans ?_ (Below.mono (by assumption) (by first | (simp; done) | omega | (simp; omega)))))); done)))
        have HX := Lib.hid (show w1.heap[wr.heap.size]? = some (.cells #[.int .i64 s, .int .i64 f, .int .i64 t] 37 (0, 0)) by rw [hb1.block _ (by rw [alloc_size]; omega)]; exact heap_alloc_new wr _)
        obtain ⟨c0, c1, c2⟩ := facts3 HX.out
        clear hb1 g0 g1 g2
        by_cases k1 : s < 0
        · skip
          go_wp2_with fail
          go_ret2
          exact new_bad (HBad.out (fun h => (by have := h.1.1; dsimp only at this; omega))) (by decide) HB1.out
        by_cases k2 : 16384 ≤ s
        · have k1b : 0 ≤ s := by omega
          go_wp2_with fail
          go_ret2
          exact new_bad (HBad.out (fun h => (by have := h.1.2.1; dsimp only at this; omega))) (by decide) HB1.out
        have k1b : 0 ≤ s := by omega
        have k2b : s < 16384 := by omega
        by_cases k3 : ¬ (0 ≤ f ∧ f < 64)
        · have HF := Lib.hid (show (decide (0 ≤ f) && decide (f < 64)) = false by rw [Bool.and_eq_false_iff]; simp; omega)
          go_wp2_with (first
            | (go_at_call 21; refine Calls.mono (node_is _ _) ?_; rintro e wn ⟨rfl, rfl⟩; rw [HF.out])
            | fail)
          go_ret2
          exact new_bad (HBad.out (fun h => k3 h.1.2.2.1)) (by decide) HB1.out
        have HF := Lib.hid (show (decide (0 ≤ f) && decide (f < 64)) = true by simp at k3 ⊢; omega)
        by_cases k4 : ¬ (0 ≤ t ∧ t < 64)
        · have HT := Lib.hid (show (decide (0 ≤ t) && decide (t < 64)) = false by rw [Bool.and_eq_false_iff]; simp; omega)
          go_wp2_with (first
            | (go_at_call 21; refine Calls.mono (node_is _ _) ?_; rintro e wn ⟨rfl, rfl⟩; rw [HF.out])
            | (go_at_call 21; refine Calls.mono (node_is _ _) ?_; rintro e wn ⟨rfl, rfl⟩; rw [HT.out])
            | fail)
          go_ret2
          exact new_bad (HBad.out (fun h => k4 h.1.2.2.2.1)) (by decide) HB1.out
        have HT := Lib.hid (show (decide (0 ≤ t) && decide (t < 64)) = true by simp at k4 ⊢; omega)
        by_cases k5 : f = t
        · subst k5
          go_wp2_with (first
            | (go_at_call 21; refine Calls.mono (node_is _ _) ?_; rintro e wn ⟨rfl, rfl⟩; rw [HF.out])
            | (go_at_call 21; refine Calls.mono (node_is _ _) ?_; rintro e wn ⟨rfl, rfl⟩; rw [HT.out])
            | fail)
          go_ret2
          exact new_bad (HBad.out (fun h => h.1.2.2.2.2 rfl)) (by decide) HB1.out
        have k5b : (f == t) = false := by simp [k5]
        cases r
        · have HS := Lib.hid (HStep.out ⟨⟨k1b, k2b, Decidable.not_not.1 k3, Decidable.not_not.1 k4, k5⟩, fun hx => by have := HR.out.2 hx; cases this⟩)
          clear k3 k4
          go_wp2_with (first
            | (go_at_call 21; refine Calls.mono (node_is _ _) ?_; rintro e wn ⟨rfl, rfl⟩; rw [HF.out])
            | (go_at_call 21; refine Calls.mono (node_is _ _) ?_; rintro e wn ⟨rfl, rfl⟩; rw [HT.out])
            | fail)
          exact ⟨⟨i + 1, by omega, by go_num, HS, HB1⟩, by simp [intOf]; omega⟩
        · clear k3 k4
          go_wp2_with (first
            | (go_at_call 21; refine Calls.mono (node_is _ _) ?_; rintro e wn ⟨rfl, rfl⟩; rw [HF.out])
            | (go_at_call 21; refine Calls.mono (node_is _ _) ?_; rintro e wn ⟨rfl, rfl⟩; rw [HT.out])
            | fail)
          go_ret2
          exact new_bad (HBad.out (fun h => h.2 (by first | exact HR.out.1 rfl | exact HR.out.1 trivial))) (by decide) HB1.out
      · have HP := Lib.hid (show okP l from fun j hj => HOK.out j (by rw [← HN.out] at hj; omega))
        have HL1 := Lib.hid (show l.length ≤ 1000 by rw [← HN.out]; exact hshort)
        by_cases b1 : B < 1
        · have HE := Lib.hid (newErr_arg (B := B) (T := T) HL1.out HP.out (.inl b1))
          go_wp2
          go_ret2
          exact new_bad HE.out (by decide) HB.out
        by_cases b2 : 100 < B
        · have HE := Lib.hid (newErr_arg (B := B) (T := T) HL1.out HP.out (.inr (.inl b2)))
          go_wp2
          go_ret2
          exact new_bad HE.out (by decide) HB.out
        by_cases b3 : T < 0
        · have HE := Lib.hid (newErr_arg (B := B) (T := T) HL1.out HP.out (.inr (.inr (.inl b3))))
          go_wp2
          go_ret2
          exact new_bad HE.out (by decide) HB.out
        by_cases b4 : 549755813888 < T
        · have HE := Lib.hid (newErr_arg (B := B) (T := T) HL1.out HP.out (.inr (.inr (.inr b4))))
          go_wp2
          go_ret2
          exact new_bad HE.out (by decide) HB.out
        have HE := Lib.hid (newErr_ok (B := B) (T := T) HL1.out HP.out (by unfold badBT; omega))
        have b1' : 1 ≤ B := by omega
        have b2' : B ≤ 100 := by omega
        have b3' : 0 ≤ T := by omega
        have b4' : T ≤ 549755813888 := by omega
        have HC := Lib.hid (show Calls Tryd.prog 22 #[.slice A N c] wr fun e w' => ∃ C k, e = .returned (.slice C N k) ∧ RowKit.Hid (w'.ownsRow wr.heap.size 37 3 (.slice C N k) N (mvs l)) ∧ Below wr.heap.size wr w' by rw [HN.out]; exact cloneM_is A l c wr (HA.out.below HB.out) HL1.out)
        go_wp2_with (go_at_call 22; refine Calls.mono HC.out ?_; rintro e w1 ⟨C, k, rfl, HO, hb1⟩)
        go_ret2
        have ba := (Below.refl w1.heap.size w1).alloc (Nat.le_refl _) (.cells #[.slice C N k, .int .i64 B, .int .i64 T, .int .i64 0, .int .i64 0, .slice none 0 0, .int .i64 0, .bool false] 60)
        have hz1 := hb1.size
        refine .inr ⟨HE.out, w1.heap.size, C, k, by first | rfl | (rw [HN.out]), by omega, Lib.hid ?_, Lib.hid ?_, ?_⟩
        · rw [← HN.out]; exact heap_alloc_new _ _
        · rw [← HN.out]; exact own_bel (own_mono HO.out hzr) ba
        · exact (HB.out.trans (hb1.mono hzr)).alloc (by omega) _
end Go.Proofs.YtdfijefgklhmdaaDoor.T
