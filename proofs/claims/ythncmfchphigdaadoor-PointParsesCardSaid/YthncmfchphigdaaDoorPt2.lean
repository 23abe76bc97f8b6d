import Derived.Test.YthncmfchphigdaaDoorPt
namespace Go.Proofs.YthncmfchphigdaaDoor.T
open Go Go.RowKit Flt
set_option maxRecDepth 100000
set_option maxHeartbeats 8000000
set_option linter.unusedVariables false
set_option linter.unusedSimpArgs false

theorem cnorm_of {x y : Int} (h : rightB x y = true) :
    ∃ re im, cMulBits (floatOfInt .f64 x) (floatOfInt .f64 y) (floatOfInt .f64 x) (Op.negFloat .f64 (floatOfInt .f64 y)) = some (re, im) ∧ floatToIntVal .f64 re .i64 = some (x * x + y * y) := by
  obtain ⟨a1, a2, a3, a4⟩ := rightB_true.1 h
  have p1 := mul_bd ⟨a1, a2⟩ ⟨a1, a2⟩
  have p2 := mul_bd ⟨a3, a4⟩ ⟨a3, a4⟩
  have p3 := mul_bd ⟨a1, a2⟩ ⟨a3, a4⟩
  have e1 : y * -y = -(y * y) := by rw [Int.mul_neg]
  have e2 : x * -y = -(x * y) := by rw [Int.mul_neg]
  have e3 : y * x = x * y := Int.mul_comm _ _
  obtain ⟨re, im, h, h1, h2⟩ := is_cmul (is_int x (by omega)) (is_int y (by omega)) (is_int x (by omega)) (is_neg (is_int y (by omega))) (by omega) (by rw [e1]; omega) (by rw [e1]; omega) (by rw [e2]; omega) (by rw [e3]; omega) (by rw [e2, e3]; omega)
  have h1' : floatToIntVal .f64 re .i64 = some (x * x - y * -y) := is_toInt h1 (by rw [e1]; omega)
  exact ⟨re, im, h, by rw [h1', e1]; congr 1; omega⟩

theorem Norm_yes (x y : Int) (w : World) (h : rightB x y = true) :
    Calls Tryd.prog 18 #[pt x y] w fun e w' => e = .returned (.int .i64 (x * x + y * y)) ∧ Below w.heap.size w w' := by
  have hu23 := Tryd.underlying23
  obtain ⟨re, im, hm, hx⟩ := cnorm_of h
  have hrun := fun w => run_complex_mul (P := Tryd.prog) w 39 _ _ _ _ re im hm
  have hcx := fun w => run_convert_float_int (P := Tryd.prog) w 43 3 .f64 .i64 re _ (by rw [Tryd.underlying43]; rfl) Tryd.underlying3 hx
  have hneg : ∀ b w, (Op.unary .neg (.float .f64 b)).run Tryd.prog w = .ok (.float .f64 (Op.negFloat .f64 b)) w := fun _ _ => rfl
  clear hx hm
  generalize x * x + y * y = z at *
  go_enter Tryd.func18, Tryd.ntmps18
  go_wp2_with (first | (go_at_call 16; refine (Right_any _ _ _).mono ?_; rintro e w1 ⟨rfl, rfl⟩))
  go_region_held3 (fun w' => w'.cell? ⟨w.heap.size, 0, none⟩ = some (.int .i64 x) ∧ w'.cell? ⟨w.heap.size, 1, none⟩ = some (.int .i64 y)) ((first | (simp [go_sem]; done) | go_keep))
    (first | (go_at_call 29; refine (in_any _ _ _).mono ?_; rintro e w1 ⟨rfl, rfl⟩))
  all_goals
    go_wp2
    go_ret
    exact ⟨rfl, (by repeat (first | exact Below.refl _ _ | (refine Below.drew ?_) | (refine Go.below_drewN ?_ _) | (refine Below.alloc ?_ (by first | (simp; done) | omega | (simp; omega)) _) | (refine Below.setCell ?_ (by first | (simp; done) | omega | (simp; omega)) _)))⟩

theorem Norm_no (x y : Int) (w : World) (h : rightB x y = false) :
    Calls Tryd.prog 18 #[pt x y] w fun e w' => e = .returned (.int .i64 0) ∧ Below w.heap.size w w' := by
  go_enter Tryd.func18, Tryd.ntmps18
  go_wp2_with (first | (go_at_call 16; refine (Right_any _ _ _).mono ?_; rintro e w1 ⟨rfl, rfl⟩))
  go_ret
  exact ⟨rfl, (by repeat (first | exact Below.refl _ _ | (refine Below.drew ?_) | (refine Go.below_drewN ?_ _) | (refine Below.alloc ?_ (by first | (simp; done) | omega | (simp; omega)) _) | (refine Below.setCell ?_ (by first | (simp; done) | omega | (simp; omega)) _)))⟩

theorem refNorm_yes (x y : Int) (w : World) (h : rightB x y = true) :
    Calls Tryd.prog 19 #[pt x y] w fun e w' => e = .returned (.int .i64 (x * x + y * y)) ∧ Below w.heap.size w w' := by
  obtain ⟨a1, a2, a3, a4⟩ := rightB_true.1 h
  have p1 := mul_bd ⟨a1, a2⟩ ⟨a1, a2⟩
  have p2 := mul_bd ⟨a3, a4⟩ ⟨a3, a4⟩
  have q1 : -1099511627776 ≤ x * x ∧ x * x ≤ 1099511627776 := by omega
  have q2 : -1099511627776 ≤ y * y ∧ y * y ≤ 1099511627776 := by omega
  clear p1 p2
  go_enter Tryd.func19, Tryd.ntmps19
  go_wp2_with (first | (go_at_call 17; refine (refRight_any _ _ _).mono ?_; rintro e w1 ⟨rfl, rfl⟩))
  go_ret
  exact ⟨rfl, (by repeat (first | exact Below.refl _ _ | (refine Below.drew ?_) | (refine Go.below_drewN ?_ _) | (refine Below.alloc ?_ (by first | (simp; done) | omega | (simp; omega)) _) | (refine Below.setCell ?_ (by first | (simp; done) | omega | (simp; omega)) _)))⟩

theorem refNorm_no (x y : Int) (w : World) (h : rightB x y = false) :
    Calls Tryd.prog 19 #[pt x y] w fun e w' => e = .returned (.int .i64 0) ∧ Below w.heap.size w w' := by
  go_enter Tryd.func19, Tryd.ntmps19
  go_wp2_with (first | (go_at_call 17; refine (refRight_any _ _ _).mono ?_; rintro e w1 ⟨rfl, rfl⟩))
  go_ret
  exact ⟨rfl, (by repeat (first | exact Below.refl _ _ | (refine Below.drew ?_) | (refine Go.below_drewN ?_ _) | (refine Below.alloc ?_ (by first | (simp; done) | omega | (simp; omega)) _) | (refine Below.setCell ?_ (by first | (simp; done) | omega | (simp; omega)) _)))⟩

/-- A point turned k times. -/
def turnN : Nat → Int → Int → Int × Int
  | 0, x, y => (x, y)
  | k + 1, x, y => (-(turnN k x y).2, (turnN k x y).1)
theorem turnN_bd (k : Nat) {x y : Int} (h : rightB x y = true) : rightB (turnN k x y).1 (turnN k x y).2 = true := by
  induction k with
  | zero => exact h
  | succ k ih =>
    obtain ⟨a1, a2, a3, a4⟩ := rightB_true.1 ih
    exact rightB_true.2 ⟨by show -1048576 ≤ -(turnN k x y).2; omega, by show -(turnN k x y).2 ≤ 1048576; omega, a1, a2⟩
/-- How often a point is turned. -/
def turns (n : Int) : Nat := ((n.tmod 4 + 4) % 4).toNat

theorem cturn_of {re im : Nat} {x y : Int} (h : rightB x y = true) (hr : Is re x) (hi : Is im y) :
    ∃ re' im', cMulBits re im 0 4607182418800017408 = some (re', im') ∧ Is re' (-y) ∧ Is im' x := by
  obtain ⟨a1, a2, a3, a4⟩ := rightB_true.1 h
  obtain ⟨re', im', h, h1, h2⟩ := is_cmul hr hi is_zero is_one (by omega) (by omega) (by omega) (by omega) (by omega) (by omega)
  refine ⟨re', im', h, ?_, ?_⟩
  · have : x * 0 - y * 1 = -y := by omega
    rwa [this] at h1
  · have : x * 1 + y * 0 = x := by omega
    rwa [this] at h2

theorem Turn_yes (x y n : Int) (w : World) (h : rightB x y = true) :
    Calls Tryd.prog 22 #[pt x y, .int .i64 n] w fun e w' => e = .returned (pt (turnN (turns n) x y).1 (turnN (turns n) x y).2) ∧ Below w.heap.size w w' := by
  have hu23 := Tryd.underlying23
  have hq : -4 < n.tmod 4 ∧ n.tmod 4 < 4 := by
    have := Int.tmod_lt_of_pos n (show (0 : Int) < 4 by decide)
    have h2 := Int.lt_tmod_of_pos n (show (0 : Int) < 4 by decide)
    omega
  obtain ⟨hq1, hq2⟩ := hq
  go_enter Tryd.func22, Tryd.ntmps22
  go_wp2_with (first | (go_at_call 16; refine (Right_any _ _ _).mono ?_; rintro e w1 ⟨rfl, rfl⟩) | (go_at_call 29; refine (in_any _ _ _).mono ?_; rintro e w1 ⟨rfl, rfl⟩))
  go_loop [5, 16] (fun c i => ∃ k : Nat, k ≤ turns n ∧ i = .int .i64 k ∧ ∃ re im, c = .complex .f64 re im ∧ Is re (turnN k x y).1 ∧ Is im (turnN k x y).2) (fun _ i => turns n - (intOf i).toNat)
  case atStart =>
    obtain ⟨a1, a2, a3, a4⟩ := rightB_true.1 h
    exact ⟨0, Nat.zero_le _, rfl, _, _, rfl, is_int x (by omega), is_int y (by omega)⟩
  case round =>
    obtain ⟨k, hk, rfl, re, im, rfl, hre, him⟩ := hrel
    have HRE := Lib.hid hre; have HIM := Lib.hid him; clear hre him
    have hT : (turns n : Int) = (n.tmod 4 + 4) % 4 := by unfold turns; omega
    by_cases hlt : (k : Int) < (n.tmod 4 + 4) % 4
    · obtain ⟨re', im', hm, h1, h2⟩ := cturn_of (turnN_bd k h) HRE.out HIM.out
      have hrun := fun w => run_complex_mul (P := Tryd.prog) w 39 _ _ _ _ re' im' hm
      have H1 := Lib.hid h1; have H2 := Lib.hid h2; clear h1 h2 hm
      have HT := Lib.hid hT; clear hT
      go_wp2
      go_round
      case rel => exact ⟨k + 1, by have := HT.out; omega, by go_num, re', im', rfl, H1.out, H2.out⟩
      case measure => have := HT.out; simp [intOf]; omega
    · have ek : k = turns n := by omega
      have hT2 := Lib.hid hT; clear hT
      obtain ⟨a1, a2, a3, a4⟩ := rightB_true.1 (turnN_bd k h)
      have hx := Lib.hid (is_toInt HRE.out (by omega)); have hy := Lib.hid (is_toInt HIM.out (by omega))
      have HE := Lib.hid ek; clear ek
      clear a1 a2 a3 a4
      go_wp2_with (first | (go_at_call 32; refine (out_any re im _ _ hx.out hy.out _).mono ?_; rintro e w1 ⟨rfl, rfl⟩))
      rw [← HE.out]
      exact bodyPost_ret (v := pt (turnN k x y).1 (turnN k x y).2) (by simp [results, Tryd.results22, go_sem]) rfl ⟨rfl, (by repeat (first | exact Below.refl _ _ | (refine Below.drew ?_) | (refine Go.below_drewN ?_ _) | (refine Below.alloc ?_ (by first | (simp; done) | omega | (simp; omega)) _) | (refine Below.setCell ?_ (by first | (simp; done) | omega | (simp; omega)) _)))⟩

theorem Turn_no (x y n : Int) (w : World) (h : rightB x y = false) :
    Calls Tryd.prog 22 #[pt x y, .int .i64 n] w fun e w' => e = .returned (pt 0 0) ∧ Below w.heap.size w w' := by
  have hu23 := Tryd.underlying23
  go_enter Tryd.func22, Tryd.ntmps22
  go_wp2_with (first | (go_at_call 16; refine (Right_any _ _ _).mono ?_; rintro e w1 ⟨rfl, rfl⟩))
  exact bodyPost_ret (v := pt 0 0) (by simp [results, Tryd.results22, go_sem]) rfl ⟨rfl, (by repeat (first | exact Below.refl _ _ | (refine Below.drew ?_) | (refine Go.below_drewN ?_ _) | (refine Below.alloc ?_ (by first | (simp; done) | omega | (simp; omega)) _) | (refine Below.setCell ?_ (by first | (simp; done) | omega | (simp; omega)) _)))⟩

theorem refTurn_no (x y n : Int) (w : World) (h : rightB x y = false) :
    Calls Tryd.prog 23 #[pt x y, .int .i64 n] w fun e w' => e = .returned (pt 0 0) ∧ Below w.heap.size w w' := by
  have hu23 := Tryd.underlying23
  go_enter Tryd.func23, Tryd.ntmps23
  go_wp2_with (first | (go_at_call 17; refine (refRight_any _ _ _).mono ?_; rintro e w1 ⟨rfl, rfl⟩))
  exact bodyPost_ret (v := pt 0 0) (by simp [results, Tryd.results23, go_sem]) rfl ⟨rfl, (by repeat (first | exact Below.refl _ _ | (refine Below.drew ?_) | (refine Go.below_drewN ?_ _) | (refine Below.alloc ?_ (by first | (simp; done) | omega | (simp; omega)) _) | (refine Below.setCell ?_ (by first | (simp; done) | omega | (simp; omega)) _)))⟩

theorem refTurn_yes (x y n : Int) (w : World) (h : rightB x y = true) :
    Calls Tryd.prog 23 #[pt x y, .int .i64 n] w fun e w' => e = .returned (pt (turnN (turns n) x y).1 (turnN (turns n) x y).2) ∧ Below w.heap.size w w' := by
  have hu23 := Tryd.underlying23
  have hq : -4 < n.tmod 4 ∧ n.tmod 4 < 4 := by
    have := Int.tmod_lt_of_pos n (show (0 : Int) < 4 by decide)
    have h2 := Int.lt_tmod_of_pos n (show (0 : Int) < 4 by decide)
    omega
  obtain ⟨hq1, hq2⟩ := hq
  by_cases hneg : n.tmod 4 < 0
  all_goals
    go_enter Tryd.func23, Tryd.ntmps23
    go_wp2_with (first | (go_at_call 17; refine (refRight_any _ _ _).mono ?_; rintro e w1 ⟨rfl, rfl⟩))
    have hT : (turns n : Int) = (n.tmod 4 + 4) % 4 := by unfold turns; omega
    have HT := Lib.hid hT; clear hT
    go_loopw [6] (fun i wr => ∃ k : Nat, k ≤ turns n ∧ i = .int .i64 k ∧ wr.cell? ⟨w.heap.size, 0, none⟩ = some (.int .i64 (turnN k x y).1) ∧ wr.cell? ⟨w.heap.size, 1, none⟩ = some (.int .i64 (turnN k x y).2)
        ∧ wr.frozen? ⟨w.heap.size, 0, none⟩ = false ∧ wr.frozen? ⟨w.heap.size, 1, none⟩ = false
        ∧ (∃ v, wr.cell? ⟨w.heap.size + 1, 0, none⟩ = some v) ∧ (∃ v, wr.cell? ⟨w.heap.size + 1, 1, none⟩ = some v) ∧ wr.frozen? ⟨w.heap.size + 1, 0, none⟩ = false ∧ wr.frozen? ⟨w.heap.size + 1, 1, none⟩ = false
        ∧ Below w.heap.size w wr) (fun i _ => turns n - (intOf i).toNat)
    case atStart =>
      exact ⟨0, Nat.zero_le _, rfl, by simp [turnN, go_sem], by simp [turnN, go_sem], by simp [go_sem], by simp [go_sem], ⟨_, by simp [go_sem]; rfl⟩, ⟨_, by simp [go_sem]; rfl⟩, by simp [go_sem], by simp [go_sem], (by repeat (first | exact Below.refl _ _ | (refine Below.drew ?_) | (refine Go.below_drewN ?_ _) | (refine Below.alloc ?_ (by first | (simp; done) | omega | (simp; omega)) _) | (refine Below.setCell ?_ (by first | (simp; done) | omega | (simp; omega)) _)))⟩
    case round =>
      obtain ⟨k, hk, rfl, c0, c1, f0, f1, ⟨v0, d0⟩, ⟨v1, d1⟩, g0, g1, hbl⟩ := hrel
      have HB := Lib.hid hbl; clear hbl
      obtain ⟨a1, a2, a3, a4⟩ := rightB_true.1 (turnN_bd k h)
      have e1 : (turnN (k + 1) x y).1 = -(turnN k x y).2 := rfl
      have e2 : (turnN (k + 1) x y).2 = (turnN k x y).1 := rfl
      by_cases hlt : k < turns n
      · have HE := Lib.hid (And.intro e1 e2); clear e1 e2
        have hlt2 : (k : Int) < (n.tmod 4 + 4) % 4 := by have := HT.out; omega
        go_wp2
        have hneg1 : (turnN (k + 1) x y).1 = -(turnN k x y).2 := rfl
        have hneg2 : (turnN (k + 1) x y).2 = (turnN k x y).1 := rfl
        refine ⟨⟨k + 1, hlt, by go_num, ?_, ?_, by simp [go_sem, f0], by simp [go_sem, f1], ⟨v0, by simp [go_sem, d0]⟩, ⟨v1, by simp [go_sem, d1]⟩, by simp [go_sem, g0], by simp [go_sem, g1], (HB.out.setCell (Nat.le_refl _) _).setCell (Nat.le_refl _) _⟩, by simp [intOf]; omega⟩
        · rw [hneg1]; simp [go_sem, c0, c1]
        · rw [hneg2]; simp [go_sem, c0, c1]
      · have hk2 := Lib.hid (show k = turns n by omega)
        have hge : (n.tmod 4 + 4) % 4 ≤ (k : Int) := by have := HT.out; omega
        clear e1 e2
        go_wp2
        rw [← hk2.out]
        exact bodyPost_ret (v := pt (turnN k x y).1 (turnN k x y).2) (by simp [results, Tryd.results23, go_sem, d0, d1]) rfl ⟨rfl, (HB.out.setCell (by simp) _).setCell (by simp) _⟩
end Go.Proofs.YthncmfchphigdaaDoor.T
