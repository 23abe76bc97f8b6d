import Derived.Test.YthncmfchphigdaaDoorPt5
namespace Go.Proofs.YthncmfchphigdaaDoor.T
open Go Go.RowKit Flt
set_option maxRecDepth 100000
set_option maxHeartbeats 8000000
set_option linter.unusedVariables false
set_option linter.unusedSimpArgs false

theorem Calls.to {P : Program} {f : FuncId} {args : Array Value} {w : World} {v v' : Value} {B : Nat} (h : Calls P f args w fun e w' => e = .returned v ∧ Below B w w') (hv : v = v') :
    Calls P f args w fun e w' => e = .returned v' ∧ Below B w w' := h.mono fun e w' ⟨he, hb⟩ => ⟨by rw [he, hv], hb⟩

def normF (x y : Int) : Int := if rightB x y then x * x + y * y else 0
theorem Norm_any (x y : Int) (w : World) : Calls Tryd.prog 18 #[pt x y] w fun e w' => e = .returned (.int .i64 (normF x y)) ∧ Below w.heap.size w w' := by
  cases h : rightB x y
  · exact Calls.to (Norm_no x y w h) (by simp [normF, h])
  · exact Calls.to (Norm_yes x y w h) (by simp [normF, h])
theorem refNorm_any (x y : Int) (w : World) : Calls Tryd.prog 19 #[pt x y] w fun e w' => e = .returned (.int .i64 (normF x y)) ∧ Below w.heap.size w w' := by
  cases h : rightB x y
  · exact Calls.to (refNorm_no x y w h) (by simp [normF, h])
  · exact Calls.to (refNorm_yes x y w h) (by simp [normF, h])

theorem PointNorms_any (x y : Int) (w : World) (hT : Tab w) :
    Calls Tryd.prog 4 #[pt x y] w fun e w' => e = .returned (.bool true) ∧ Below w.heap.size w w' := by
  have hu23 := Tryd.underlying23
  go_enter Tryd.func4, Tryd.ntmps4
  go_wp2_with fail
  go_region_held3 (fun w' => w'.cell? ⟨w.heap.size, 0, none⟩ = some (.int .i64 x) ∧ w'.cell? ⟨w.heap.size, 1, none⟩ = some (.int .i64 y) ∧ Below w.heap.size w w')
    (((refine ⟨?_, ?_, ?_⟩ <;> (first | ((repeat (first | exact Below.refl _ _ | (refine Below.drew ?_) | (refine Go.RowKit.below_drewN ?_ _) | (refine Below.alloc ?_ (by first | (simp; done) | omega | (simp; omega)) _) | (refine Below.setCell ?_ (by first | (simp; done) | omega | (simp; omega)) _) | (refine Below.trans ?_ (Below.mono (by assumption) (by first | (simp; done) | omega | (simp; omega)))))); done) | (simp [go_sem]; done) | (rw [hb3.cell (by first | (simp; done) | omega | (simp; omega))]; (first | (simp only [*]; done) | (simp [go_sem]; done) | (simp [*, go_sem]; done))) | (rw [hb4.cell (by first | (simp; done) | omega | (simp; omega))]; (first | (simp only [*]; done) | (simp [go_sem]; done) | (simp [*, go_sem]; done))) | (simp [*, go_sem]; done)))))
    (first
    | (go_at_call 15; refine Calls.mono (alive_any _ (hT.keep ?_)) ?_; (focus ((repeat (first | exact Below.refl _ _ | (refine Below.drew ?_) | (refine Go.RowKit.below_drewN ?_ _) | (refine Below.alloc ?_ (by first | (simp; done) | omega | (simp; omega)) _) | (refine Below.setCell ?_ (by first | (simp; done) | omega | (simp; omega)) _) | (refine Below.trans ?_ (Below.mono (by assumption) (by first | (simp; done) | omega | (simp; omega)))))); done)); rintro e w1 ⟨rfl, hb1⟩; obtain ⟨hc1, hf1⟩ := after hb1; have hz1_0 : w.heap.size < w1.heap.size := (by have := hb1.size; (try simp at this); omega))
    | (go_at_call 16; refine (Right_any x y _).mono ?_; rintro e w2 ⟨rfl, rfl⟩)
    | (go_at_call 17; refine (refRight_any x y _).mono ?_; rintro e w2 ⟨rfl, rfl⟩)
    | (go_at_call 18; refine (Norm_any x y _).mono ?_; rintro e w3 ⟨rfl, hb3⟩; obtain ⟨hc3, hf3⟩ := after hb3; have hz3_0 : w.heap.size < w3.heap.size := (by have := hb3.size; (try simp at this); omega))
    | (go_at_call 19; refine (refNorm_any x y _).mono ?_; rintro e w4 ⟨rfl, hb4⟩; obtain ⟨hc4, hf4⟩ := after hb4; have hz4_0 : w.heap.size < w4.heap.size := (by have := hb4.size; (try simp at this); omega)))
  all_goals
    go_wp2
    go_ret
    exact ⟨rfl, (by ((repeat (first | exact Below.refl _ _ | (refine Below.drew ?_) | (refine Go.RowKit.below_drewN ?_ _) | (refine Below.alloc ?_ (by first | (simp; done) | omega | (simp; omega)) _) | (refine Below.setCell ?_ (by first | (simp; done) | omega | (simp; omega)) _) | (refine Below.trans ?_ (Below.mono (by assumption) (by first | (simp; done) | omega | (simp; omega)))))); done))⟩

theorem turnN_add (a b : Nat) (x y : Int) : turnN a (turnN b x y).1 (turnN b x y).2 = turnN (a + b) x y := by
  induction a with
  | zero => simp [turnN]
  | succ a ih => rw [show a + 1 + b = (a + b) + 1 from by omega]; simp only [turnN, ih]
theorem turnN_four (k : Nat) (x y : Int) : turnN (k + 4) x y = turnN k x y := by simp [turnN]
theorem turnN_mod (k : Nat) (x y : Int) : turnN (k % 4) x y = turnN k x y := by
  have : ∀ j r, turnN (r + 4 * j) x y = turnN r x y := by
    intro j
    induction j with
    | zero => simp
    | succ j ih => intro r; rw [show r + 4 * (j + 1) = (r + 4 * j) + 4 from by omega, turnN_four, ih]
  have h := this (k / 4) (k % 4)
  rw [show k % 4 + 4 * (k / 4) = k from by omega] at h
  exact h.symm
theorem turns_eq (n : Int) : ((turns n : Nat) : Int) = n % 4 := by
  unfold turns
  have h1 := Int.tmod_eq_emod (a := n) (b := 4)
  rw [h1]
  split <;> simp <;> omega
theorem turns_add (m n : Int) (x y : Int) : turnN (turns n) (turnN (turns m) x y).1 (turnN (turns m) x y).2 = turnN (turns (m + n)) x y := by
  rw [turnN_add, ← turnN_mod (turns n + turns m), ← turnN_mod (turns (m + n))]
  have h1 := turns_eq m; have h2 := turns_eq n; have h3 := turns_eq (m + n)
  congr 1
  omega
theorem Turn_four (x y : Int) (w : World) (h : rightB x y = true) : Calls Tryd.prog 22 #[pt x y, .int .i64 4] w fun e w' => e = .returned (pt x y) ∧ Below w.heap.size w w' :=
  Calls.to (Turn_yes x y 4 w h) (by rw [show turns 4 = 0 from by decide]; rfl)
theorem Turn_two (x y m n : Int) (w : World) (h : rightB x y = true) :
    Calls Tryd.prog 22 #[pt (turnN (turns m) x y).1 (turnN (turns m) x y).2, .int .i64 n] w fun e w' => e = .returned (pt (turnN (turns (m + n)) x y).1 (turnN (turns (m + n)) x y).2) ∧ Below w.heap.size w w' :=
  Calls.to (Turn_yes _ _ n w (turnN_bd _ h)) (by rw [turns_add])

theorem PointRound_any (x y m n : Int) (w : World) (hT : Tab w) :
    Calls Tryd.prog 9 #[pt x y, .int .i64 m, .int .i64 n] w fun e w' => e = .returned (.bool true) ∧ Below w.heap.size w w' := by
  have hu23 := Tryd.underlying23
  by_cases hbd : (-1099511627776 ≤ m ∧ m ≤ 1099511627776) ∧ (-1099511627776 ≤ n ∧ n ≤ 1099511627776) ∧ rightB x y = true
  · obtain ⟨⟨m1, m2⟩, ⟨n1, n2⟩, h⟩ := hbd
    have hw : IntKind.i64.wrap (m + n) = m + n := IntWalk.i64_in _ ⟨by omega, by omega⟩
    go_enter Tryd.func9, Tryd.ntmps9
    go_wp2_with (first | (go_at_call 17; refine (refRight_any x y _).mono ?_; rintro e w2 ⟨rfl, rfl⟩))
    go_region_held3 (fun w' => w'.cell? ⟨w.heap.size, 0, none⟩ = some (.int .i64 x) ∧ w'.cell? ⟨w.heap.size, 1, none⟩ = some (.int .i64 y) ∧ Below w.heap.size w w')
      (((refine ⟨?_, ?_, ?_⟩ <;> (first | ((repeat (first | exact Below.refl _ _ | (refine Below.drew ?_) | (refine Go.RowKit.below_drewN ?_ _) | (refine Below.alloc ?_ (by first | (simp; done) | omega | (simp; omega)) _) | (refine Below.setCell ?_ (by first | (simp; done) | omega | (simp; omega)) _) | (refine Below.trans ?_ (Below.mono (by assumption) (by first | (simp; done) | omega | (simp; omega)))))); done) | (simp [go_sem]; done) | (simp [*, go_sem]; done)))))
      (first
      | (go_at_call 15; refine Calls.mono (alive_any _ (hT.keep ?_)) ?_; (focus ((repeat (first | exact Below.refl _ _ | (refine Below.drew ?_) | (refine Go.RowKit.below_drewN ?_ _) | (refine Below.alloc ?_ (by first | (simp; done) | omega | (simp; omega)) _) | (refine Below.setCell ?_ (by first | (simp; done) | omega | (simp; omega)) _) | (refine Below.trans ?_ (Below.mono (by assumption) (by first | (simp; done) | omega | (simp; omega)))))); done)); rintro e w1 ⟨rfl, hb1⟩; obtain ⟨hc1, hf1⟩ := after hb1; have hz1_0 : w.heap.size < w1.heap.size := (by have := hb1.size; (try simp at this); omega))
      | (go_at_call 22; with_reducible refine (Turn_four x y _ h).mono ?_; rintro e w2 ⟨rfl, hb2⟩; obtain ⟨hc2, hf2⟩ := after hb2; have hz2_0 : w.heap.size < w2.heap.size := (by have := hb2.size; (try simp at this); omega))
      | (go_at_call 22; with_reducible refine (Turn_two x y m n _ h).mono ?_; rintro e w3 ⟨rfl, hb3⟩; obtain ⟨hc3, hf3⟩ := after hb3; have hz3_0 : w.heap.size < w3.heap.size := (by have := hb3.size; (try simp at this); omega))
      | (go_at_call 22; with_reducible refine (Turn_yes x y _ _ h).mono ?_; rintro e w4 ⟨rfl, hb4⟩; obtain ⟨hc4, hf4⟩ := after hb4; have hz4_0 : w.heap.size < w4.heap.size := (by have := hb4.size; (try simp at this); omega)))
    all_goals
      go_wp2
      go_ret
      exact ⟨rfl, (by ((repeat (first | exact Below.refl _ _ | (refine Below.drew ?_) | (refine Go.RowKit.below_drewN ?_ _) | (refine Below.alloc ?_ (by first | (simp; done) | omega | (simp; omega)) _) | (refine Below.setCell ?_ (by first | (simp; done) | omega | (simp; omega)) _) | (refine Below.trans ?_ (Below.mono (by assumption) (by first | (simp; done) | omega | (simp; omega)))))); done))⟩
  · cases hr : rightB x y
    · clear hbd
      go_enter Tryd.func9, Tryd.ntmps9
      go_wp2_with (first | (go_at_call 17; refine (refRight_any x y _).mono ?_; rintro e w2 ⟨rfl, rfl⟩) | (go_at_call 15; refine Calls.mono (alive_any _ (hT.keep ?_)) ?_; (focus ((repeat (first | exact Below.refl _ _ | (refine Below.drew ?_) | (refine Go.RowKit.below_drewN ?_ _) | (refine Below.alloc ?_ (by first | (simp; done) | omega | (simp; omega)) _) | (refine Below.setCell ?_ (by first | (simp; done) | omega | (simp; omega)) _) | (refine Below.trans ?_ (Below.mono (by assumption) (by first | (simp; done) | omega | (simp; omega)))))); done)); rintro e w1 ⟨rfl, hb1⟩; obtain ⟨hc1, hf1⟩ := after hb1; have hz1_0 : w.heap.size < w1.heap.size := (by have := hb1.size; (try simp at this); omega)))
      all_goals (go_ret; exact ⟨rfl, (by ((repeat (first | exact Below.refl _ _ | (refine Below.drew ?_) | (refine Go.RowKit.below_drewN ?_ _) | (refine Below.alloc ?_ (by first | (simp; done) | omega | (simp; omega)) _) | (refine Below.setCell ?_ (by first | (simp; done) | omega | (simp; omega)) _) | (refine Below.trans ?_ (Below.mono (by assumption) (by first | (simp; done) | omega | (simp; omega)))))); done))⟩)
    · have hbd2 : (m < -1099511627776 ∨ 1099511627776 < m) ∨ n < -1099511627776 ∨ 1099511627776 < n := by
        have : ¬((-1099511627776 ≤ m ∧ m ≤ 1099511627776) ∧ (-1099511627776 ≤ n ∧ n ≤ 1099511627776)) := fun h => hbd ⟨h.1, h.2, hr⟩
        omega
      clear hbd
      rcases hbd2 with (h1 | h1) | h1 | h1
      all_goals
        go_enter Tryd.func9, Tryd.ntmps9
        go_wp2_with (first | (go_at_call 17; refine (refRight_any x y _).mono ?_; rintro e w2 ⟨rfl, rfl⟩) | (go_at_call 15; refine Calls.mono (alive_any _ (hT.keep ?_)) ?_; (focus ((repeat (first | exact Below.refl _ _ | (refine Below.drew ?_) | (refine Go.RowKit.below_drewN ?_ _) | (refine Below.alloc ?_ (by first | (simp; done) | omega | (simp; omega)) _) | (refine Below.setCell ?_ (by first | (simp; done) | omega | (simp; omega)) _) | (refine Below.trans ?_ (Below.mono (by assumption) (by first | (simp; done) | omega | (simp; omega)))))); done)); rintro e w1 ⟨rfl, hb1⟩; obtain ⟨hc1, hf1⟩ := after hb1; have hz1_0 : w.heap.size < w1.heap.size := (by have := hb1.size; (try simp at this); omega)))
        all_goals (go_ret; exact ⟨rfl, (by ((repeat (first | exact Below.refl _ _ | (refine Below.drew ?_) | (refine Go.RowKit.below_drewN ?_ _) | (refine Below.alloc ?_ (by first | (simp; done) | omega | (simp; omega)) _) | (refine Below.setCell ?_ (by first | (simp; done) | omega | (simp; omega)) _) | (refine Below.trans ?_ (Below.mono (by assumption) (by first | (simp; done) | omega | (simp; omega)))))); done))⟩)

theorem add_zero_of {x y : Int} (h : rightB x y = true) : madeV (x + 0) (y + 0) = .tuple #[pt x y, .int .i64 0] := by
  simp [okx, oky, oke, h]
theorem Add_neg (x y : Int) (w : World) (h : rightB x y = true) (h' : rightB (-x) (-y) = true) : Calls Tryd.prog 20 #[pt x y, pt (-x) (-y)] w fun e w' => e = .returned (.tuple #[pt 0 0, .int .i64 0]) ∧ Below w.heap.size w w' :=
  Calls.to (Add_yes _ _ _ _ w h h') (by
    rw [show x + -x = 0 from by omega, show y + -y = 0 from by omega]; rfl)
theorem Add_zero (x y : Int) (w : World) (h : rightB x y = true) : Calls Tryd.prog 20 #[pt x y, pt 0 0] w fun e w' => e = .returned (.tuple #[pt x y, .int .i64 0]) ∧ Below w.heap.size w w' :=
  Calls.to (Add_yes _ _ _ _ w h (by decide)) (by
    rw [show x + 0 = x from by omega, show y + 0 = y from by omega]; simp [okx, oky, oke, h])
theorem Times_one (x y : Int) (w : World) (h : rightB x y = true) : Calls Tryd.prog 13 #[pt x y, pt 1 0] w fun e w' => e = .returned (.tuple #[pt x y, .int .i64 0]) ∧ Below w.heap.size w w' :=
  Calls.to (Times_yes _ _ _ _ w h (by decide)) (by
    rw [show x * 1 - y * 0 = x from by omega, show x * 0 + y * 1 = y from by omega]; simp [okx, oky, oke, h])
theorem Times_half (x y : Int) (w : World) (h : rightB x y = true) (h' : rightB (-x) (-y) = true) : Calls Tryd.prog 13 #[pt x y, pt (-1) 0] w fun e w' => e = .returned (.tuple #[pt (-x) (-y), .int .i64 0]) ∧ Below w.heap.size w w' :=
  Calls.to (Times_yes _ _ _ _ w h (by decide)) (by
    rw [show x * -1 - y * 0 = -x from by omega, show x * 0 + y * -1 = -y from by omega]; simp [okx, oky, oke, h'])
theorem Times_i (x y : Int) (w : World) (h : rightB x y = true) (h' : rightB (-y) x = true) : Calls Tryd.prog 13 #[pt x y, pt 0 1] w fun e w' => e = .returned (.tuple #[pt (-y) x, .int .i64 0]) ∧ Below w.heap.size w w' :=
  Calls.to (Times_yes _ _ _ _ w h (by decide)) (by
    rw [show x * 0 - y * 1 = -y from by omega, show x * 1 + y * 0 = x from by omega]; simp [okx, oky, oke, h'])
theorem Turn_half (x y : Int) (w : World) (h : rightB x y = true) : Calls Tryd.prog 22 #[pt x y, .int .i64 2] w fun e w' => e = .returned (pt (-x) (-y)) ∧ Below w.heap.size w w' :=
  Calls.to (Turn_yes x y 2 w h) (by rw [show turns 2 = 2 from by decide]; rfl)
theorem Turn_i (x y : Int) (w : World) (h : rightB x y = true) : Calls Tryd.prog 22 #[pt x y, .int .i64 1] w fun e w' => e = .returned (pt (-y) x) ∧ Below w.heap.size w w' :=
  Calls.to (Turn_yes x y 1 w h) (by rw [show turns 1 = 1 from by decide]; rfl)

theorem PointRests_any (x y : Int) (w : World) (hT : Tab w) :
    Calls Tryd.prog 7 #[pt x y] w fun e w' => e = .returned (.bool true) ∧ Below w.heap.size w w' := by
  have hu23 := Tryd.underlying23
  cases h : rightB x y
  · go_enter Tryd.func7, Tryd.ntmps7
    go_wp2_with (first | (go_at_call 17; refine (refRight_any x y _).mono ?_; rintro e w2 ⟨rfl, rfl⟩) | (go_at_call 15; refine Calls.mono (alive_any _ (hT.keep ?_)) ?_; (focus ((repeat (first | exact Below.refl _ _ | (refine Below.drew ?_) | (refine Go.RowKit.below_drewN ?_ _) | (refine Below.alloc ?_ (by first | (simp; done) | omega | (simp; omega)) _) | (refine Below.setCell ?_ (by first | (simp; done) | omega | (simp; omega)) _) | (refine Below.trans ?_ (Below.mono (by assumption) (by first | (simp; done) | omega | (simp; omega)))))); done)); rintro e w1 ⟨rfl, hb1⟩; obtain ⟨hc1, hf1⟩ := after hb1; have hz1_0 : w.heap.size < w1.heap.size := (by have := hb1.size; (try simp at this); omega)))
    all_goals (go_ret; exact ⟨rfl, (by ((repeat (first | exact Below.refl _ _ | (refine Below.drew ?_) | (refine Go.RowKit.below_drewN ?_ _) | (refine Below.alloc ?_ (by first | (simp; done) | omega | (simp; omega)) _) | (refine Below.setCell ?_ (by first | (simp; done) | omega | (simp; omega)) _) | (refine Below.trans ?_ (Below.mono (by assumption) (by first | (simp; done) | omega | (simp; omega)))))); done))⟩)
  · obtain ⟨a1, a2, a3, a4⟩ := rightB_true.1 h
    have h' : rightB (-x) (-y) = true := rightB_true.2 ⟨by omega, by omega, by omega, by omega⟩
    go_enter Tryd.func7, Tryd.ntmps7
    go_wp2_with (first
      | (go_at_call 17; refine (refRight_any x y _).mono ?_; rintro e w2 ⟨rfl, rfl⟩)
      | (go_at_call 20; with_reducible refine (Add_neg x y _ h h').mono ?_; rintro e w1 ⟨rfl, hb1⟩; obtain ⟨hc1, hf1⟩ := after hb1; have hz1_0 : w.heap.size < w1.heap.size := (by have := hb1.size; (try simp at this); omega))
      | (go_at_call 20; with_reducible refine (Add_zero x y _ h).mono ?_; rintro e w2 ⟨rfl, hb2⟩; obtain ⟨hc2, hf2⟩ := after hb2; have hz2_0 : w.heap.size < w2.heap.size := (by have := hb2.size; (try simp at this); omega); have hz2_1 : w1.heap.size < w2.heap.size := (by have := hb2.size; (try simp at this); omega))
      | (go_at_call 13; with_reducible refine (Times_one x y _ h).mono ?_; rintro e w3 ⟨rfl, hb3⟩; obtain ⟨hc3, hf3⟩ := after hb3; have hz3_0 : w.heap.size < w3.heap.size := (by have := hb3.size; (try simp at this); omega); have hz3_1 : w1.heap.size < w3.heap.size := (by have := hb3.size; (try simp at this); omega); have hz3_2 : w2.heap.size < w3.heap.size := (by have := hb3.size; (try simp at this); omega))
      | (go_at_call 15; refine Calls.mono (alive_any _ (hT.keep ?_)) ?_; (focus ((repeat (first | exact Below.refl _ _ | (refine Below.drew ?_) | (refine Go.RowKit.below_drewN ?_ _) | (refine Below.alloc ?_ (by first | (simp; done) | omega | (simp; omega)) _) | (refine Below.setCell ?_ (by first | (simp; done) | omega | (simp; omega)) _) | (refine Below.trans ?_ (Below.mono (by assumption) (by first | (simp; done) | omega | (simp; omega)))))); done)); rintro e w4 ⟨rfl, hb4⟩; obtain ⟨hc4, hf4⟩ := after hb4; have hz4_0 : w.heap.size < w4.heap.size := (by have := hb4.size; (try simp at this); omega); have hz4_1 : w1.heap.size < w4.heap.size := (by have := hb4.size; (try simp at this); omega); have hz4_2 : w2.heap.size < w4.heap.size := (by have := hb4.size; (try simp at this); omega); have hz4_3 : w3.heap.size < w4.heap.size := (by have := hb4.size; (try simp at this); omega)))
    all_goals (go_ret; exact ⟨rfl, (by ((repeat (first | exact Below.refl _ _ | (refine Below.drew ?_) | (refine Go.RowKit.below_drewN ?_ _) | (refine Below.alloc ?_ (by first | (simp; done) | omega | (simp; omega)) _) | (refine Below.setCell ?_ (by first | (simp; done) | omega | (simp; omega)) _) | (refine Below.trans ?_ (Below.mono (by assumption) (by first | (simp; done) | omega | (simp; omega)))))); done))⟩)

theorem PointHalf_any (x y : Int) (w : World) (hT : Tab w) :
    Calls Tryd.prog 10 #[pt x y] w fun e w' => e = .returned (.bool true) ∧ Below w.heap.size w w' := by
  have hu23 := Tryd.underlying23
  cases h : rightB x y
  · have hno1 : (rightB x y && rightB (-1) 0) = false := by rw [h]; rfl
    have hno2 : (rightB x y && rightB 0 1) = false := by rw [h]; rfl
    have H1 := Lib.hid hno1; have H2 := Lib.hid hno2; clear hno1 hno2
    go_enter Tryd.func10, Tryd.ntmps10
    go_wp2_with (first
      | (go_at_call 17; refine (refRight_any x y _).mono ?_; rintro e w2 ⟨rfl, rfl⟩)
      | (go_at_call 13; with_reducible refine (Times_no x y (-1) 0 _ H1.out).mono ?_; rintro e w1 ⟨rfl, hb1⟩; obtain ⟨hc1, hf1⟩ := after hb1; have hz1_0 : w.heap.size < w1.heap.size := (by have := hb1.size; (try simp at this); omega))
      | (go_at_call 13; with_reducible refine (Times_no x y 0 1 _ H2.out).mono ?_; rintro e w2 ⟨rfl, hb2⟩; obtain ⟨hc2, hf2⟩ := after hb2; have hz2_0 : w.heap.size < w2.heap.size := (by have := hb2.size; (try simp at this); omega); have hz2_1 : w1.heap.size < w2.heap.size := (by have := hb2.size; (try simp at this); omega))
      | (go_at_call 15; refine Calls.mono (alive_any _ (hT.keep ?_)) ?_; (focus ((repeat (first | exact Below.refl _ _ | (refine Below.drew ?_) | (refine Go.RowKit.below_drewN ?_ _) | (refine Below.alloc ?_ (by first | (simp; done) | omega | (simp; omega)) _) | (refine Below.setCell ?_ (by first | (simp; done) | omega | (simp; omega)) _) | (refine Below.trans ?_ (Below.mono (by assumption) (by first | (simp; done) | omega | (simp; omega)))))); done)); rintro e w4 ⟨rfl, hb4⟩; obtain ⟨hc4, hf4⟩ := after hb4; have hz4_0 : w.heap.size < w4.heap.size := (by have := hb4.size; (try simp at this); omega); have hz4_1 : w1.heap.size < w4.heap.size := (by have := hb4.size; (try simp at this); omega); have hz4_2 : w2.heap.size < w4.heap.size := (by have := hb4.size; (try simp at this); omega)))
    all_goals (go_ret; exact ⟨rfl, (by ((repeat (first | exact Below.refl _ _ | (refine Below.drew ?_) | (refine Go.RowKit.below_drewN ?_ _) | (refine Below.alloc ?_ (by first | (simp; done) | omega | (simp; omega)) _) | (refine Below.setCell ?_ (by first | (simp; done) | omega | (simp; omega)) _) | (refine Below.trans ?_ (Below.mono (by assumption) (by first | (simp; done) | omega | (simp; omega)))))); done))⟩)
  · obtain ⟨a1, a2, a3, a4⟩ := rightB_true.1 h
    have h' : rightB (-x) (-y) = true := rightB_true.2 ⟨by omega, by omega, by omega, by omega⟩
    have h2 : rightB (-y) x = true := rightB_true.2 ⟨by omega, by omega, by omega, by omega⟩
    go_enter Tryd.func10, Tryd.ntmps10
    go_wp2_with (first
      | (go_at_call 17; refine (refRight_any x y _).mono ?_; rintro e w3 ⟨rfl, rfl⟩)
      | (go_at_call 13; with_reducible refine (Times_half x y _ h h').mono ?_; rintro e w1 ⟨rfl, hb1⟩; obtain ⟨hc1, hf1⟩ := after hb1; have hz1_0 : w.heap.size < w1.heap.size := (by have := hb1.size; (try simp at this); omega))
      | (go_at_call 13; with_reducible refine (Times_i x y _ h h2).mono ?_; rintro e w2 ⟨rfl, hb2⟩; obtain ⟨hc2, hf2⟩ := after hb2; have hz2_0 : w.heap.size < w2.heap.size := (by have := hb2.size; (try simp at this); omega); have hz2_1 : w1.heap.size < w2.heap.size := (by have := hb2.size; (try simp at this); omega)))
    go_region_held3 (fun w' => w'.cell? ⟨w.heap.size, 0, none⟩ = some (.int .i64 x) ∧ w'.cell? ⟨w.heap.size, 1, none⟩ = some (.int .i64 y) ∧ w'.cell? ⟨w1.heap.size, 0, none⟩ = some (.int .i64 (-x)) ∧ w'.cell? ⟨w1.heap.size, 1, none⟩ = some (.int .i64 (-y)) ∧ w'.cell? ⟨w2.heap.size, 0, none⟩ = some (.int .i64 (-y)) ∧ w'.cell? ⟨w2.heap.size, 1, none⟩ = some (.int .i64 x) ∧ Below w.heap.size w w')
      (((refine ⟨?_, ?_, ?_, ?_, ?_, ?_, ?_⟩ <;> (first | ((repeat (first | exact Below.refl _ _ | (refine Below.drew ?_) | (refine Go.RowKit.below_drewN ?_ _) | (refine Below.alloc ?_ (by first | (simp; done) | omega | (simp; omega)) _) | (refine Below.setCell ?_ (by first | (simp; done) | omega | (simp; omega)) _) | (refine Below.trans ?_ (Below.mono (by assumption) (by first | (simp; done) | omega | (simp; omega)))))); done) | (simp [go_sem]; done) | (rw [hb5.cell (by first | (simp; done) | omega | (simp; omega))]; (first | (simp only [*]; done) | (simp [go_sem]; done) | (simp [*, go_sem]; done))) | (rw [hb4.cell (by first | (simp; done) | omega | (simp; omega))]; (first | (simp only [*]; done) | (simp [go_sem]; done) | (simp [*, go_sem]; done))) | (rw [hb6.cell (by first | (simp; done) | omega | (simp; omega))]; (first | (simp only [*]; done) | (simp [go_sem]; done) | (simp [*, go_sem]; done))) | (simp [*, go_sem]; done)))))
      (first
      | (go_at_call 15; refine Calls.mono (alive_any _ (hT.keep ?_)) ?_; (focus ((repeat (first | exact Below.refl _ _ | (refine Below.drew ?_) | (refine Go.RowKit.below_drewN ?_ _) | (refine Below.alloc ?_ (by first | (simp; done) | omega | (simp; omega)) _) | (refine Below.setCell ?_ (by first | (simp; done) | omega | (simp; omega)) _) | (refine Below.trans ?_ (Below.mono (by assumption) (by first | (simp; done) | omega | (simp; omega)))))); done)); rintro e w4 ⟨rfl, hb4⟩; have hz4_0 : w.heap.size < w4.heap.size := (by have := hb4.size; (try simp at this); omega); have hz4_1 : w1.heap.size < w4.heap.size := (by have := hb4.size; (try simp at this); omega); have hz4_2 : w2.heap.size < w4.heap.size := (by have := hb4.size; (try simp at this); omega))
      | (go_at_call 22; with_reducible refine (Turn_half x y _ h).mono ?_; rintro e w5 ⟨rfl, hb5⟩; have hz5_0 : w.heap.size < w5.heap.size := (by have := hb5.size; (try simp at this); omega); have hz5_1 : w1.heap.size < w5.heap.size := (by have := hb5.size; (try simp at this); omega); have hz5_2 : w2.heap.size < w5.heap.size := (by have := hb5.size; (try simp at this); omega))
      | (go_at_call 22; with_reducible refine (Turn_i x y _ h).mono ?_; rintro e w6 ⟨rfl, hb6⟩; have hz6_0 : w.heap.size < w6.heap.size := (by have := hb6.size; (try simp at this); omega); have hz6_1 : w1.heap.size < w6.heap.size := (by have := hb6.size; (try simp at this); omega); have hz6_2 : w2.heap.size < w6.heap.size := (by have := hb6.size; (try simp at this); omega)))
    all_goals
      go_wp2
      go_ret
      exact ⟨rfl, (by ((repeat (first | exact Below.refl _ _ | (refine Below.drew ?_) | (refine Go.RowKit.below_drewN ?_ _) | (refine Below.alloc ?_ (by first | (simp; done) | omega | (simp; omega)) _) | (refine Below.setCell ?_ (by first | (simp; done) | omega | (simp; omega)) _) | (refine Below.trans ?_ (Below.mono (by assumption) (by first | (simp; done) | omega | (simp; omega)))))); done))⟩
end Go.Proofs.YthncmfchphigdaaDoor.T
