import Derived.Test.YthncmfchphigdaaDoorProg
import Derived.Test.YthncmfchphigdaaDoorShelf
import Derived.Test.YthncmfchphigdaaDoorFlt
import Derived.WalkKit
import Derived.Outline
import Derived.WalkLawsBesides
import Derived.Deep.QuietTactic
import Derived.BigQuiet
import Derived.Lib.Hide
import Derived.Handy
import Derived.Deep.RegionHeld3
import Derived.Deep.DrawnRows
namespace Go.Proofs.YthncmfchphigdaaDoor.T
open Go Go.RowKit Flt
set_option maxRecDepth 100000
set_option maxHeartbeats 8000000

def partB (n : Int) : Bool := decide (-1048576 ≤ n ∧ n ≤ 1048576)
theorem partB_true {n : Int} : partB n = true ↔ (-1048576 ≤ n ∧ n ≤ 1048576) := by simp [partB]
theorem partB_false {n : Int} : partB n = false ↔ (n < -1048576 ∨ 1048576 < n) := by simp [partB]; omega
theorem ret_bool {a b : Bool} (h : a = b) : Ending.returned (.bool a) = .returned (.bool b) := by rw [h]
theorem ret_int {k : IntKind} {a b : Int} (h : a = b) : Ending.returned (.int k a) = .returned (.int k b) := by rw [h]

theorem part_any (n : Int) (w : World) : Calls Tryd.prog 31 #[.int .i64 n] w fun e w' => e = .returned (.bool (partB n)) ∧ w = w' := by
  go_enter Tryd.func31, Tryd.ntmps31
  go_wp2
  all_goals (go_ret; exact ⟨ret_bool (by simp [partB]; omega), rfl⟩)

def rightB (x y : Int) : Bool := partB x && partB y
abbrev pt (x y : Int) : Value := .agg #[.int .i64 x, .int .i64 y]

theorem rightB_true {x y : Int} : rightB x y = true ↔ (-1048576 ≤ x ∧ x ≤ 1048576 ∧ -1048576 ≤ y ∧ y ≤ 1048576) := by
  simp [rightB, partB_true, and_assoc]

theorem after {W w1 : World} (hb : Below W.heap.size W w1) : (∀ b o, b < W.heap.size → w1.cell? ⟨b, o, none⟩ = W.cell? ⟨b, o, none⟩) ∧ (∀ b o, b < W.heap.size → w1.frozen? ⟨b, o, none⟩ = W.frozen? ⟨b, o, none⟩) :=
  ⟨fun b o h => hb.cell (p := ⟨b, o, none⟩) h, fun b o h => hb.frozen (p := ⟨b, o, none⟩) h⟩

theorem Right_any (x y : Int) (w : World) : Calls Tryd.prog 16 #[pt x y] w fun e w' => e = .returned (.bool (rightB x y)) ∧ w.alloc (.cells #[.int .i64 x, .int .i64 y] 23) = w' := by
  go_enter Tryd.func16, Tryd.ntmps16
  go_wp2_with (go_at_call 31; refine (part_any _ _).mono ?_; rintro e w' ⟨rfl, rfl⟩)
  all_goals (go_ret; exact ⟨ret_bool (by simp [rightB, *]), rfl⟩)

theorem refRight_any (x y : Int) (w : World) : Calls Tryd.prog 17 #[pt x y] w fun e w' => e = .returned (.bool (rightB x y)) ∧ w.alloc (.cells #[.int .i64 x, .int .i64 y] 23) = w' := by
  go_enter Tryd.func17, Tryd.ntmps17
  go_wp2
  all_goals (go_ret; exact ⟨ret_bool (by simp [rightB, partB, *] <;> omega), rfl⟩)

theorem in_any (x y : Int) (w : World) : Calls Tryd.prog 29 #[pt x y] w fun e w' => e = .returned (.complex .f64 (floatOfInt .f64 x) (floatOfInt .f64 y)) ∧ w.alloc (.cells #[.int .i64 x, .int .i64 y] 23) = w' := by
  have hu23 := Tryd.underlying23
  go_enter Tryd.func29, Tryd.ntmps29
  go_wp2
  go_ret
  exact ⟨rfl, rfl⟩

theorem out_any (re im : Nat) (x y : Int) (hx : floatToIntVal .f64 re .i64 = some x) (hy : floatToIntVal .f64 im .i64 = some y) (w : World) :
    Calls Tryd.prog 32 #[.complex .f64 re im] w fun e w' => e = .returned (pt x y) ∧ w.alloc (.cells #[.int .i64 x, .int .i64 y] 23) = w' := by
  have hu23 := Tryd.underlying23
  have hcx := fun w => run_convert_float_int (P := Tryd.prog) w 43 3 .f64 .i64 re x (by rw [Tryd.underlying43]; rfl) Tryd.underlying3 hx
  have hcy := fun w => run_convert_float_int (P := Tryd.prog) w 43 3 .f64 .i64 im y (by rw [Tryd.underlying43]; rfl) Tryd.underlying3 hy
  clear hx hy
  go_enter Tryd.func32, Tryd.ntmps32
  go_wp2
  exact bodyPost_ret (v := pt x y) (by simp [results, Tryd.results32, go_sem]) rfl ⟨rfl, by simp⟩

def okx (x y : Int) : Int := if rightB x y then x else 0
def oky (x y : Int) : Int := if rightB x y then y else 0
def oke (x y : Int) : Int := if rightB x y then 0 else 91
abbrev madeV (x y : Int) : Value := .tuple #[pt (okx x y) (oky x y), .int .i64 (oke x y)]

theorem made_any (ax ay bx by_ : Int) (re im : Nat) (x y : Int) (hx : floatToIntVal .f64 re .i64 = some x) (hy : floatToIntVal .f64 im .i64 = some y)
    (ha : rightB ax ay = true) (hb : rightB bx by_ = true) (w : World) :
    Calls Tryd.prog 28 #[pt ax ay, pt bx by_, .complex .f64 re im] w fun e w' => e = .returned (madeV x y) ∧ Below w.heap.size w w' := by
  have hu23 := Tryd.underlying23
  have HX := Lib.hid hx; have HY := Lib.hid hy; clear hx hy
  cases hr : rightB x y
  all_goals
    go_enter Tryd.func28, Tryd.ntmps28
    go_wp2_with (first | (go_at_call 16; refine (Right_any _ _ _).mono ?_; rintro e w1 ⟨rfl, rfl⟩) | (go_at_call 32; refine (out_any re im x y HX.out HY.out _).mono ?_; rintro e w1 ⟨rfl, rfl⟩))
  · exact bodyPost_ret (v := .tuple #[pt 0 0, .int .i64 91]) (by simp [results, Tryd.results28, go_sem]) rfl ⟨by simp [okx, oky, oke, hr], (by repeat (first | exact Below.refl _ _ | (refine Below.drew ?_) | (refine Go.below_drewN ?_ _) | (refine Below.alloc ?_ (by first | (simp; done) | omega | (simp; omega)) _) | (refine Below.setCell ?_ (by first | (simp; done) | omega | (simp; omega)) _)))⟩
  · exact bodyPost_ret (v := .tuple #[pt x y, .int .i64 0]) (by simp [results, Tryd.results28, go_sem]) rfl ⟨by simp [okx, oky, oke, hr], (by repeat (first | exact Below.refl _ _ | (refine Below.drew ?_) | (refine Go.below_drewN ?_ _) | (refine Below.alloc ?_ (by first | (simp; done) | omega | (simp; omega)) _) | (refine Below.setCell ?_ (by first | (simp; done) | omega | (simp; omega)) _)))⟩

theorem mul_bd {a b : Int} (ha : -1048576 ≤ a ∧ a ≤ 1048576) (hb : -1048576 ≤ b ∧ b ≤ 1048576) : (a * b).natAbs ≤ 1099511627776 := by
  rw [Int.natAbs_mul]
  exact Nat.mul_le_mul (show a.natAbs ≤ 1048576 by omega) (show b.natAbs ≤ 1048576 by omega)

theorem cmul_of {ax ay bx by_ : Int} (ha : rightB ax ay = true) (hb : rightB bx by_ = true) :
    ∃ re im, cMulBits (floatOfInt .f64 ax) (floatOfInt .f64 ay) (floatOfInt .f64 bx) (floatOfInt .f64 by_) = some (re, im) ∧
      floatToIntVal .f64 re .i64 = some (ax * bx - ay * by_) ∧ floatToIntVal .f64 im .i64 = some (ax * by_ + ay * bx) := by
  obtain ⟨a1, a2, a3, a4⟩ := rightB_true.1 ha
  obtain ⟨b1, b2, b3, b4⟩ := rightB_true.1 hb
  have p1 := mul_bd ⟨a1, a2⟩ ⟨b1, b2⟩
  have p2 := mul_bd ⟨a3, a4⟩ ⟨b3, b4⟩
  have p3 := mul_bd ⟨a1, a2⟩ ⟨b3, b4⟩
  have p4 := mul_bd ⟨a3, a4⟩ ⟨b1, b2⟩
  obtain ⟨re, im, h, h1, h2⟩ := is_cmul (is_int ax (by omega)) (is_int ay (by omega)) (is_int bx (by omega)) (is_int by_ (by omega)) (by omega) (by omega) (by omega) (by omega) (by omega) (by omega)
  exact ⟨re, im, h, is_toInt h1 (by omega), is_toInt h2 (by omega)⟩

theorem cadd_of {ax ay bx by_ : Int} (ha : rightB ax ay = true) (hb : rightB bx by_ = true) :
    ∃ re im, cSumBits .add .f64 (floatOfInt .f64 ax) (floatOfInt .f64 ay) (floatOfInt .f64 bx) (floatOfInt .f64 by_) = some (re, im) ∧
      floatToIntVal .f64 re .i64 = some (ax + bx) ∧ floatToIntVal .f64 im .i64 = some (ay + by_) := by
  obtain ⟨a1, a2, a3, a4⟩ := rightB_true.1 ha
  obtain ⟨b1, b2, b3, b4⟩ := rightB_true.1 hb
  obtain ⟨re, im, h, h1, h2⟩ := is_csum (is_int ax (by omega)) (is_int ay (by omega)) (is_int bx (by omega)) (is_int by_ (by omega)) (by omega) (by omega)
  exact ⟨re, im, h, is_toInt h1 (by omega), is_toInt h2 (by omega)⟩

theorem Times_yes (ax ay bx by_ : Int) (w : World) (ha : rightB ax ay = true) (hb : rightB bx by_ = true) :
    Calls Tryd.prog 13 #[pt ax ay, pt bx by_] w fun e w' => e = .returned (madeV (ax * bx - ay * by_) (ax * by_ + ay * bx)) ∧ Below w.heap.size w w' := by
  have hu23 := Tryd.underlying23
  obtain ⟨re, im, hm, hx, hy⟩ := cmul_of ha hb
  have hrun := fun w => run_complex_mul (P := Tryd.prog) w 39 _ _ _ _ re im hm
  have HX := Lib.hid hx; have HY := Lib.hid hy; clear hx hy hm
  generalize ax * bx - ay * by_ = x at *
  generalize ax * by_ + ay * bx = y at *
  go_enter Tryd.func13, Tryd.ntmps13
  go_wp2_with (first | (go_at_call 16; refine (Right_any _ _ _).mono ?_; rintro e w1 ⟨rfl, rfl⟩))
  go_region_held3 (fun w' => w'.cell? ⟨w.heap.size, 0, none⟩ = some (.int .i64 ax) ∧ w'.cell? ⟨w.heap.size, 1, none⟩ = some (.int .i64 ay) ∧ w'.cell? ⟨w.heap.size + 1, 0, none⟩ = some (.int .i64 bx) ∧ w'.cell? ⟨w.heap.size + 1, 1, none⟩ = some (.int .i64 by_)) ((first | (simp [go_sem]; done) | (simp [hc1, go_sem]; done) | go_keep))
    (first | (go_at_call 29; refine (in_any _ _ _).mono ?_; rintro e w1 ⟨rfl, rfl⟩) | (go_at_call 28; refine (made_any _ _ _ _ re im x y HX.out HY.out ha hb _).mono ?_; rintro e w1 ⟨rfl, hb1⟩; obtain ⟨hc1, hf1⟩ := after hb1))
  go_wp2
  exact bodyPost_ret (v := madeV x y) (by simp [results, Tryd.results13, go_sem, hc1]) rfl ⟨rfl, (by repeat (first | exact Below.refl _ _ | (refine Below.drew ?_) | (refine Go.below_drewN ?_ _) | (refine Below.alloc ?_ (by first | (simp; done) | omega | (simp; omega)) _) | (refine Below.setCell ?_ (by first | (simp; done) | omega | (simp; omega)) _) | (refine Below.trans ?_ (Below.mono hb1 (by first | (simp; done) | omega | (simp; omega))))))⟩

theorem Times_no (ax ay bx by_ : Int) (w : World) (h : (rightB ax ay && rightB bx by_) = false) :
    Calls Tryd.prog 13 #[pt ax ay, pt bx by_] w fun e w' => e = .returned (.tuple #[pt 0 0, .int .i64 91]) ∧ Below w.heap.size w w' := by
  have hu23 := Tryd.underlying23
  cases ha : rightB ax ay
  · clear h
    go_enter Tryd.func13, Tryd.ntmps13
    go_wp2_with (first | (go_at_call 16; refine (Right_any _ _ _).mono ?_; rintro e w1 ⟨rfl, rfl⟩))
    exact bodyPost_ret (v := .tuple #[pt 0 0, .int .i64 91]) (by simp [results, Tryd.results13, go_sem]) rfl ⟨rfl, (by repeat (first | exact Below.refl _ _ | (refine Below.drew ?_) | (refine Go.below_drewN ?_ _) | (refine Below.alloc ?_ (by first | (simp; done) | omega | (simp; omega)) _) | (refine Below.setCell ?_ (by first | (simp; done) | omega | (simp; omega)) _)))⟩
  · have hb : rightB bx by_ = false := by simpa [ha] using h
    clear h
    go_enter Tryd.func13, Tryd.ntmps13
    go_wp2_with (first | (go_at_call 16; refine (Right_any _ _ _).mono ?_; rintro e w1 ⟨rfl, rfl⟩))
    exact bodyPost_ret (v := .tuple #[pt 0 0, .int .i64 91]) (by simp [results, Tryd.results13, go_sem]) rfl ⟨rfl, (by repeat (first | exact Below.refl _ _ | (refine Below.drew ?_) | (refine Go.below_drewN ?_ _) | (refine Below.alloc ?_ (by first | (simp; done) | omega | (simp; omega)) _) | (refine Below.setCell ?_ (by first | (simp; done) | omega | (simp; omega)) _)))⟩

theorem Add_no (ax ay bx by_ : Int) (w : World) (h : (rightB ax ay && rightB bx by_) = false) :
    Calls Tryd.prog 20 #[pt ax ay, pt bx by_] w fun e w' => e = .returned (.tuple #[pt 0 0, .int .i64 91]) ∧ Below w.heap.size w w' := by
  have hu23 := Tryd.underlying23
  cases ha : rightB ax ay
  · clear h
    go_enter Tryd.func20, Tryd.ntmps20
    go_wp2_with (first | (go_at_call 16; refine (Right_any _ _ _).mono ?_; rintro e w1 ⟨rfl, rfl⟩))
    exact bodyPost_ret (v := .tuple #[pt 0 0, .int .i64 91]) (by simp [results, Tryd.results20, go_sem]) rfl ⟨rfl, (by repeat (first | exact Below.refl _ _ | (refine Below.drew ?_) | (refine Go.below_drewN ?_ _) | (refine Below.alloc ?_ (by first | (simp; done) | omega | (simp; omega)) _) | (refine Below.setCell ?_ (by first | (simp; done) | omega | (simp; omega)) _)))⟩
  · have hb : rightB bx by_ = false := by simpa [ha] using h
    clear h
    go_enter Tryd.func20, Tryd.ntmps20
    go_wp2_with (first | (go_at_call 16; refine (Right_any _ _ _).mono ?_; rintro e w1 ⟨rfl, rfl⟩))
    exact bodyPost_ret (v := .tuple #[pt 0 0, .int .i64 91]) (by simp [results, Tryd.results20, go_sem]) rfl ⟨rfl, (by repeat (first | exact Below.refl _ _ | (refine Below.drew ?_) | (refine Go.below_drewN ?_ _) | (refine Below.alloc ?_ (by first | (simp; done) | omega | (simp; omega)) _) | (refine Below.setCell ?_ (by first | (simp; done) | omega | (simp; omega)) _)))⟩

theorem Add_yes (ax ay bx by_ : Int) (w : World) (ha : rightB ax ay = true) (hb : rightB bx by_ = true) :
    Calls Tryd.prog 20 #[pt ax ay, pt bx by_] w fun e w' => e = .returned (madeV (ax + bx) (ay + by_)) ∧ Below w.heap.size w w' := by
  have hu23 := Tryd.underlying23
  obtain ⟨re, im, hm, hx, hy⟩ := cadd_of ha hb
  have hrun := fun w => run_complex_sum (P := Tryd.prog) w .add (Or.inl rfl) 39 .f64 _ _ _ _ re im hm
  have HX := Lib.hid hx; have HY := Lib.hid hy; clear hx hy hm
  generalize ax + bx = x at *
  generalize ay + by_ = y at *
  go_enter Tryd.func20, Tryd.ntmps20
  go_wp2_with (first | (go_at_call 16; refine (Right_any _ _ _).mono ?_; rintro e w1 ⟨rfl, rfl⟩))
  go_region_held3 (fun w' => w'.cell? ⟨w.heap.size, 0, none⟩ = some (.int .i64 ax) ∧ w'.cell? ⟨w.heap.size, 1, none⟩ = some (.int .i64 ay) ∧ w'.cell? ⟨w.heap.size + 1, 0, none⟩ = some (.int .i64 bx) ∧ w'.cell? ⟨w.heap.size + 1, 1, none⟩ = some (.int .i64 by_)) ((first | (simp [go_sem]; done) | (simp [hc1, go_sem]; done) | go_keep))
    (first | (go_at_call 29; refine (in_any _ _ _).mono ?_; rintro e w1 ⟨rfl, rfl⟩) | (go_at_call 28; refine (made_any _ _ _ _ re im x y HX.out HY.out ha hb _).mono ?_; rintro e w1 ⟨rfl, hb1⟩; obtain ⟨hc1, hf1⟩ := after hb1))
  go_wp2
  exact bodyPost_ret (v := madeV x y) (by simp [results, Tryd.results20, go_sem, hc1]) rfl ⟨rfl, (by repeat (first | exact Below.refl _ _ | (refine Below.drew ?_) | (refine Go.below_drewN ?_ _) | (refine Below.alloc ?_ (by first | (simp; done) | omega | (simp; omega)) _) | (refine Below.setCell ?_ (by first | (simp; done) | omega | (simp; omega)) _) | (refine Below.trans ?_ (Below.mono hb1 (by first | (simp; done) | omega | (simp; omega))))))⟩

theorem may_any (x y : Int) (w : World) :
    Calls Tryd.prog 30 #[pt x y] w fun e w' => e = .returned (madeV x y) ∧ Below w.heap.size w w' := by
  have hu23 := Tryd.underlying23
  cases hr : rightB x y
  all_goals
    go_enter Tryd.func30, Tryd.ntmps30
    go_wp2_with (first | (go_at_call 17; refine (refRight_any _ _ _).mono ?_; rintro e w1 ⟨rfl, rfl⟩))
  · exact bodyPost_ret (v := .tuple #[pt 0 0, .int .i64 91]) (by simp [results, Tryd.results30, go_sem]) rfl ⟨by simp [okx, oky, oke, hr], (by repeat (first | exact Below.refl _ _ | (refine Below.drew ?_) | (refine Go.below_drewN ?_ _) | (refine Below.alloc ?_ (by first | (simp; done) | omega | (simp; omega)) _) | (refine Below.setCell ?_ (by first | (simp; done) | omega | (simp; omega)) _)))⟩
  · exact bodyPost_ret (v := .tuple #[pt x y, .int .i64 0]) (by simp [results, Tryd.results30, go_sem]) rfl ⟨by simp [okx, oky, oke, hr], (by repeat (first | exact Below.refl _ _ | (refine Below.drew ?_) | (refine Go.below_drewN ?_ _) | (refine Below.alloc ?_ (by first | (simp; done) | omega | (simp; omega)) _) | (refine Below.setCell ?_ (by first | (simp; done) | omega | (simp; omega)) _)))⟩

theorem refTimes_no (ax ay bx by_ : Int) (w : World) (h : (rightB ax ay && rightB bx by_) = false) :
    Calls Tryd.prog 14 #[pt ax ay, pt bx by_] w fun e w' => e = .returned (.tuple #[pt 0 0, .int .i64 91]) ∧ Below w.heap.size w w' := by
  have hu23 := Tryd.underlying23
  cases ha : rightB ax ay
  · clear h
    go_enter Tryd.func14, Tryd.ntmps14
    go_wp2_with (first | (go_at_call 17; refine (refRight_any _ _ _).mono ?_; rintro e w1 ⟨rfl, rfl⟩))
    exact bodyPost_ret (v := .tuple #[pt 0 0, .int .i64 91]) (by simp [results, Tryd.results14, go_sem]) rfl ⟨rfl, (by repeat (first | exact Below.refl _ _ | (refine Below.drew ?_) | (refine Go.below_drewN ?_ _) | (refine Below.alloc ?_ (by first | (simp; done) | omega | (simp; omega)) _) | (refine Below.setCell ?_ (by first | (simp; done) | omega | (simp; omega)) _)))⟩
  · have hb : rightB bx by_ = false := by simpa [ha] using h
    clear h
    go_enter Tryd.func14, Tryd.ntmps14
    go_wp2_with (first | (go_at_call 17; refine (refRight_any _ _ _).mono ?_; rintro e w1 ⟨rfl, rfl⟩))
    exact bodyPost_ret (v := .tuple #[pt 0 0, .int .i64 91]) (by simp [results, Tryd.results14, go_sem]) rfl ⟨rfl, (by repeat (first | exact Below.refl _ _ | (refine Below.drew ?_) | (refine Go.below_drewN ?_ _) | (refine Below.alloc ?_ (by first | (simp; done) | omega | (simp; omega)) _) | (refine Below.setCell ?_ (by first | (simp; done) | omega | (simp; omega)) _)))⟩

theorem refAdd_no (ax ay bx by_ : Int) (w : World) (h : (rightB ax ay && rightB bx by_) = false) :
    Calls Tryd.prog 21 #[pt ax ay, pt bx by_] w fun e w' => e = .returned (.tuple #[pt 0 0, .int .i64 91]) ∧ Below w.heap.size w w' := by
  have hu23 := Tryd.underlying23
  cases ha : rightB ax ay
  · clear h
    go_enter Tryd.func21, Tryd.ntmps21
    go_wp2_with (first | (go_at_call 17; refine (refRight_any _ _ _).mono ?_; rintro e w1 ⟨rfl, rfl⟩))
    exact bodyPost_ret (v := .tuple #[pt 0 0, .int .i64 91]) (by simp [results, Tryd.results21, go_sem]) rfl ⟨rfl, (by repeat (first | exact Below.refl _ _ | (refine Below.drew ?_) | (refine Go.below_drewN ?_ _) | (refine Below.alloc ?_ (by first | (simp; done) | omega | (simp; omega)) _) | (refine Below.setCell ?_ (by first | (simp; done) | omega | (simp; omega)) _)))⟩
  · have hb : rightB bx by_ = false := by simpa [ha] using h
    clear h
    go_enter Tryd.func21, Tryd.ntmps21
    go_wp2_with (first | (go_at_call 17; refine (refRight_any _ _ _).mono ?_; rintro e w1 ⟨rfl, rfl⟩))
    exact bodyPost_ret (v := .tuple #[pt 0 0, .int .i64 91]) (by simp [results, Tryd.results21, go_sem]) rfl ⟨rfl, (by repeat (first | exact Below.refl _ _ | (refine Below.drew ?_) | (refine Go.below_drewN ?_ _) | (refine Below.alloc ?_ (by first | (simp; done) | omega | (simp; omega)) _) | (refine Below.setCell ?_ (by first | (simp; done) | omega | (simp; omega)) _)))⟩

theorem refAdd_yes (ax ay bx by_ : Int) (w : World) (ha : rightB ax ay = true) (hb : rightB bx by_ = true) :
    Calls Tryd.prog 21 #[pt ax ay, pt bx by_] w fun e w' => e = .returned (madeV (ax + bx) (ay + by_)) ∧ Below w.heap.size w w' := by
  have hu23 := Tryd.underlying23
  obtain ⟨a1, a2, a3, a4⟩ := rightB_true.1 ha
  obtain ⟨b1, b2, b3, b4⟩ := rightB_true.1 hb
  go_enter Tryd.func21, Tryd.ntmps21
  go_wp2_with (first | (go_at_call 17; refine (refRight_any _ _ _).mono ?_; rintro e w1 ⟨rfl, rfl⟩) | (go_at_call 30; refine (may_any _ _ _).mono ?_; rintro e w1 ⟨rfl, hb1⟩; obtain ⟨hc1, hf1⟩ := after hb1))
  exact bodyPost_ret (v := madeV (ax + bx) (ay + by_)) (by simp [results, Tryd.results21, go_sem, hc1]) rfl ⟨rfl, (by repeat (first | exact Below.refl _ _ | (refine Below.drew ?_) | (refine Go.below_drewN ?_ _) | (refine Below.alloc ?_ (by first | (simp; done) | omega | (simp; omega)) _) | (refine Below.setCell ?_ (by first | (simp; done) | omega | (simp; omega)) _) | (refine Below.trans ?_ (Below.mono hb1 (by first | (simp; done) | omega | (simp; omega))))))⟩

theorem refTimes_yes (ax ay bx by_ : Int) (w : World) (ha : rightB ax ay = true) (hb : rightB bx by_ = true) :
    Calls Tryd.prog 14 #[pt ax ay, pt bx by_] w fun e w' => e = .returned (madeV (ax * bx - ay * by_) (ax * by_ + ay * bx)) ∧ Below w.heap.size w w' := by
  have hu23 := Tryd.underlying23
  obtain ⟨a1, a2, a3, a4⟩ := rightB_true.1 ha
  obtain ⟨b1, b2, b3, b4⟩ := rightB_true.1 hb
  have p1 := mul_bd ⟨a1, a2⟩ ⟨b1, b2⟩
  have p2 := mul_bd ⟨a3, a4⟩ ⟨b3, b4⟩
  have p3 := mul_bd ⟨a1, a2⟩ ⟨b3, b4⟩
  have p4 := mul_bd ⟨a3, a4⟩ ⟨b1, b2⟩
  have q1 : -1099511627776 ≤ ax * bx ∧ ax * bx ≤ 1099511627776 := by omega
  have q2 : -1099511627776 ≤ ay * by_ ∧ ay * by_ ≤ 1099511627776 := by omega
  have q3 : -1099511627776 ≤ ax * by_ ∧ ax * by_ ≤ 1099511627776 := by omega
  have q4 : -1099511627776 ≤ ay * bx ∧ ay * bx ≤ 1099511627776 := by omega
  clear p1 p2 p3 p4
  go_enter Tryd.func14, Tryd.ntmps14
  go_wp2_with (first | (go_at_call 17; refine (refRight_any _ _ _).mono ?_; rintro e w1 ⟨rfl, rfl⟩) | (go_at_call 30; refine (may_any _ _ _).mono ?_; rintro e w1 ⟨rfl, hb1⟩; obtain ⟨hc1, hf1⟩ := after hb1))
  exact bodyPost_ret (v := madeV (ax * bx - ay * by_) (ax * by_ + ay * bx)) (by simp [results, Tryd.results14, go_sem, hc1]) rfl ⟨rfl, (by repeat (first | exact Below.refl _ _ | (refine Below.drew ?_) | (refine Go.below_drewN ?_ _) | (refine Below.alloc ?_ (by first | (simp; done) | omega | (simp; omega)) _) | (refine Below.setCell ?_ (by first | (simp; done) | omega | (simp; omega)) _) | (refine Below.trans ?_ (Below.mono hb1 (by first | (simp; done) | omega | (simp; omega))))))⟩
end Go.Proofs.YthncmfchphigdaaDoor.T
