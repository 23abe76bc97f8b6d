import Derived.Test.YthncmfchphigdaaDoorPt2
import Derived.Lib.ItoaLen
namespace Go.Proofs.YthncmfchphigdaaDoor.T
open Go Go.RowKit Go.Sort Flt
set_option maxRecDepth 100000
set_option maxHeartbeats 8000000
set_option linter.unusedVariables false
set_option linter.unusedSimpArgs false

theorem var?_keep {P : Program} {w w' : World} {n : String} {cs : Array Value} (hb : Below w.heap.size w w') (hv : w.var? P n = some cs) : w'.var? P n = some cs := by
  unfold World.var? at hv ⊢
  cases hg : P.globalNamed n with
  | none => rw [hg] at hv; cases hv
  | some g =>
    rw [hg] at hv
    simp only [Option.bind_some] at hv ⊢
    have : g < w.heap.size := by
      rcases Nat.lt_or_ge g w.heap.size with h | h
      · exact h
      · rw [Array.getElem?_eq_none h] at hv; cases hv
    rw [hb.block g this]
    exact hv

def Tab (w : World) : Prop := Lib.TabIs Tryd.prog w "internal/strconv.uint64pow10" .u64 Lib.pow10Tab
theorem Tab.keep {w w' : World} (h : Tab w) (hb : Below w.heap.size w w') : Tab w' := var?_keep hb h

theorem grow_below (w : World) (os : Array Obj) (B : Nat) (hB : B ≤ w.heap.size) : Below B w (grow w os) := by
  refine ⟨rfl, rfl, rfl, by simp [grow], fun k hk => ?_⟩
  show (w.heap ++ os)[k]? = _
  rw [Array.getElem?_append_left (by omega)]

theorem Itoa_any (n : Int) (w : World) (h0 : -9223372036854775808 ≤ n) (h1 : n ≤ 9223372036854775807) (hT : Tab w) :
    Calls Tryd.prog 33 #[.int .i64 n] w fun e w' => e = .returned (.string ⟨(Lib.itoa n).toArray⟩) ∧ Below w.heap.size w w' :=
  (Tryd.strconv_Itoa n h0 h1 w hT).mono fun e w' ⟨he, k, os, hw⟩ => ⟨he, by rw [hw]; exact (below_drewN (Below.refl _ _) k).trans (grow_below _ _ _ (Nat.le_refl _))⟩

theorem run_max2 {P : Program} (ats : Array TypeId) (ty : TypeId) (x y : Int) (w : World) : (Builtin.max_ ats ty #[.int .i64 x, .int .i64 y]).run P w = .ok (.int .i64 (max x y)) w := by
  have : (if y > x then y else x) = max x y := by omega
  simp only [Builtin.max_, List.foldlM_cons, List.foldlM_nil, Builtin.max2, ← this]
  rfl

def printL (x y : Int) : List UInt8 := Lib.itoa x ++ (if y < 0 then [45] else [43]) ++ Lib.itoa (max y (-y)) ++ [105]

theorem ba_append (a b : List UInt8) : (⟨a.toArray⟩ : ByteArray) ++ ⟨b.toArray⟩ = ⟨(a ++ b).toArray⟩ := by
  apply ByteArray.ext
  simp
theorem ret_str {a b : ByteArray} (h : a = b) : Ending.returned (.string a) = .returned (.string b) := by rw [h]

theorem Print_yes (x y : Int) (w : World) (h : rightB x y = true) (hT : Tab w) :
    Calls Tryd.prog 24 #[pt x y] w fun e w' => e = .returned (.string ⟨(printL x y).toArray⟩) ∧ Below w.heap.size w w' := by
  have hu23 := Tryd.underlying23
  obtain ⟨a1, a2, a3, a4⟩ := rightB_true.1 h
  have hmax := @run_max2 Tryd.prog
  have l1 := Lib.itoa_length_le x (by omega) (by omega)
  have l2 := Lib.itoa_length_le (max y (-y)) (by omega) (by omega)
  have b1 : -9223372036854775808 ≤ max y (-y) := by omega
  have b2 : max y (-y) ≤ 9223372036854775807 := by omega
  have n1 : ¬ 9223372036854775807 < (Lib.itoa x).length + 1 := by omega
  have n2 : ¬ 9223372036854775807 < (Lib.itoa x).length + 1 + (Lib.itoa (max y (-y))).length := by omega
  have n3 : ¬ 9223372036854775807 < (Lib.itoa x).length + 1 + (Lib.itoa (max y (-y))).length + 1 := by omega
  have hw : IntKind.i64.wrap (-y) = -y := IntWalk.i64_in _ ⟨by omega, by omega⟩
  by_cases hy : y < 0
  · have hpost : printL x y = Lib.itoa x ++ [45] ++ Lib.itoa (max y (-y)) ++ [105] := by simp [printL, hy]
    rw [hpost]; clear hpost
    go_enter Tryd.func24, Tryd.ntmps24
    go_wp2_with (first | (go_at_call 16; refine (Right_any _ _ _).mono ?_; rintro e w1 ⟨rfl, rfl⟩))
    go_region_held3 (fun w' => w'.cell? ⟨w.heap.size, 0, none⟩ = some (.int .i64 x) ∧ w'.cell? ⟨w.heap.size, 1, none⟩ = some (.int .i64 y) ∧ Below w.heap.size w w')
      ((refine ⟨?_, ?_, ?_⟩ <;> (first | (simp [go_sem]; done) | (simp [hc1, go_sem]; done) | (simp [hc2, hc1, go_sem, hz1]; done) | ((repeat (first | exact Below.refl _ _ | (refine Below.drew ?_) | (refine Go.below_drewN ?_ _) | (refine Below.alloc ?_ (by first | (simp; done) | omega | (simp; omega)) _) | (refine Below.setCell ?_ (by first | (simp; done) | omega | (simp; omega)) _) | (refine Below.trans ?_ (Below.mono hb2 (by first | (simp; done) | omega | (simp; omega)))) | (refine Below.trans ?_ (Below.mono hb1 (by first | (simp; done) | omega | (simp; omega)))))); done))))
      (first | (go_at_call_of 33 (Value.int IntKind.i64 x); refine Calls.mono (Itoa_any _ _ (by omega) (by omega) (hT.keep ?_)) ?_; (focus ((repeat (first | exact Below.refl _ _ | (refine Below.drew ?_) | (refine Go.below_drewN ?_ _) | (refine Below.alloc ?_ (by first | (simp; done) | omega | (simp; omega)) _) | (refine Below.setCell ?_ (by first | (simp; done) | omega | (simp; omega)) _))); done)); rintro e w1 ⟨rfl, hb1⟩; obtain ⟨hc1, hf1⟩ := after hb1; have hz1 : w.heap.size < w1.heap.size := by have := hb1.size; simp at this; omega) | (go_at_call 33; refine Calls.mono (Itoa_any _ _ b1 b2 (hT.keep ?_)) ?_; (focus ((repeat (first | exact Below.refl _ _ | (refine Below.drew ?_) | (refine Go.below_drewN ?_ _) | (refine Below.alloc ?_ (by first | (simp; done) | omega | (simp; omega)) _) | (refine Below.setCell ?_ (by first | (simp; done) | omega | (simp; omega)) _) | (refine Below.trans ?_ (Below.mono hb1 (by first | (simp; done) | omega | (simp; omega)))))); done)); rintro e w2 ⟨rfl, hb2⟩; obtain ⟨hc2, hf2⟩ := after hb2))
    all_goals
      go_wp2
      go_ret
      exact ⟨ret_str ((congrArg (· ++ (⟨[105].toArray⟩ : ByteArray)) ((congrArg (· ++ (⟨(Lib.itoa (max y (-y))).toArray⟩ : ByteArray)) (ba_append _ [45])).trans (ba_append _ _))).trans (ba_append _ _)), (by repeat (first | exact Below.refl _ _ | (refine Below.drew ?_) | (refine Go.below_drewN ?_ _) | (refine Below.alloc ?_ (by first | (simp; done) | omega | (simp; omega)) _) | (refine Below.setCell ?_ (by first | (simp; done) | omega | (simp; omega)) _) | (refine Below.trans ?_ (Below.mono hb2 (by first | (simp; done) | omega | (simp; omega)))) | (refine Below.trans ?_ (Below.mono hb1 (by first | (simp; done) | omega | (simp; omega))))))⟩
  · have hpost : printL x y = Lib.itoa x ++ [43] ++ Lib.itoa (max y (-y)) ++ [105] := by simp [printL, hy]
    rw [hpost]; clear hpost
    go_enter Tryd.func24, Tryd.ntmps24
    go_wp2_with (first | (go_at_call 16; refine (Right_any _ _ _).mono ?_; rintro e w1 ⟨rfl, rfl⟩))
    go_region_held3 (fun w' => w'.cell? ⟨w.heap.size, 0, none⟩ = some (.int .i64 x) ∧ w'.cell? ⟨w.heap.size, 1, none⟩ = some (.int .i64 y) ∧ Below w.heap.size w w')
      ((refine ⟨?_, ?_, ?_⟩ <;> (first | (simp [go_sem]; done) | (simp [hc1, go_sem]; done) | (simp [hc2, hc1, go_sem, hz1]; done) | ((repeat (first | exact Below.refl _ _ | (refine Below.drew ?_) | (refine Go.below_drewN ?_ _) | (refine Below.alloc ?_ (by first | (simp; done) | omega | (simp; omega)) _) | (refine Below.setCell ?_ (by first | (simp; done) | omega | (simp; omega)) _) | (refine Below.trans ?_ (Below.mono hb2 (by first | (simp; done) | omega | (simp; omega)))) | (refine Below.trans ?_ (Below.mono hb1 (by first | (simp; done) | omega | (simp; omega)))))); done))))
      (first | (go_at_call_of 33 (Value.int IntKind.i64 x); refine Calls.mono (Itoa_any _ _ (by omega) (by omega) (hT.keep ?_)) ?_; (focus ((repeat (first | exact Below.refl _ _ | (refine Below.drew ?_) | (refine Go.below_drewN ?_ _) | (refine Below.alloc ?_ (by first | (simp; done) | omega | (simp; omega)) _) | (refine Below.setCell ?_ (by first | (simp; done) | omega | (simp; omega)) _))); done)); rintro e w1 ⟨rfl, hb1⟩; obtain ⟨hc1, hf1⟩ := after hb1; have hz1 : w.heap.size < w1.heap.size := by have := hb1.size; simp at this; omega) | (go_at_call 33; refine Calls.mono (Itoa_any _ _ b1 b2 (hT.keep ?_)) ?_; (focus ((repeat (first | exact Below.refl _ _ | (refine Below.drew ?_) | (refine Go.below_drewN ?_ _) | (refine Below.alloc ?_ (by first | (simp; done) | omega | (simp; omega)) _) | (refine Below.setCell ?_ (by first | (simp; done) | omega | (simp; omega)) _) | (refine Below.trans ?_ (Below.mono hb1 (by first | (simp; done) | omega | (simp; omega)))))); done)); rintro e w2 ⟨rfl, hb2⟩; obtain ⟨hc2, hf2⟩ := after hb2))
    all_goals
      go_wp2
      go_ret
      exact ⟨ret_str ((congrArg (· ++ (⟨[105].toArray⟩ : ByteArray)) ((congrArg (· ++ (⟨(Lib.itoa (max y (-y))).toArray⟩ : ByteArray)) (ba_append _ [43])).trans (ba_append _ _))).trans (ba_append _ _)), (by repeat (first | exact Below.refl _ _ | (refine Below.drew ?_) | (refine Go.below_drewN ?_ _) | (refine Below.alloc ?_ (by first | (simp; done) | omega | (simp; omega)) _) | (refine Below.setCell ?_ (by first | (simp; done) | omega | (simp; omega)) _) | (refine Below.trans ?_ (Below.mono hb2 (by first | (simp; done) | omega | (simp; omega)))) | (refine Below.trans ?_ (Below.mono hb1 (by first | (simp; done) | omega | (simp; omega))))))⟩
end Go.Proofs.YthncmfchphigdaaDoor.T
