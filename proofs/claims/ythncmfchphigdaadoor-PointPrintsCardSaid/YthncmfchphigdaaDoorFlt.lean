/- Plain facts: whole numbers below 2^53 are exact in double floats: sums, differences and products of such words stand for the sums, differences and products. -/
import Derived.Laws.FloatArith
import Derived.Laws.ComplexArith
namespace Go.Proofs.YthncmfchphigdaaDoor.Flt
open Go Ieee

/-- A datum stands for the whole number n. -/
def Rep (d : Datum) (n : Int) : Prop := ∃ neg mag place, d = .number neg mag place ∧ ∃ k : Nat, 0 ≤ place + k ∧ (if neg then -((mag : Int) * 2 ^ (place + k).toNat) else (mag : Int) * 2 ^ (place + k).toNat) = n * 2 ^ k

theorem rep_int (n : Int) : Rep (.number (n < 0) n.natAbs 0) n := by
  refine ⟨_, _, _, rfl, 0, by omega, ?_⟩
  by_cases h : n < 0 <;> simp [h] <;> omega

theorem rep_opp {d : Datum} {n : Int} (h : Rep d n) : Rep d.opposite (-n) := by
  obtain ⟨neg, mag, place, rfl, k, hk, he⟩ := h
  refine ⟨!neg, mag, place, rfl, k, hk, ?_⟩
  cases neg
  · simp only [Bool.not_false, if_true, Bool.false_eq_true, if_false] at *; rw [Int.neg_mul, ← he]
  · simp only [Bool.not_true, if_true, Bool.false_eq_true, if_false] at *; rw [Int.neg_mul, ← he]; simp

theorem rep_prod {d e : Datum} {n m : Int} (h : Rep d n) (g : Rep e m) : ∃ r, d.product e = some r ∧ Rep r (n * m) := by
  obtain ⟨s, a, i, rfl, k, hk, he⟩ := h
  obtain ⟨t, b, j, rfl, l, hl, hf⟩ := g
  refine ⟨_, rfl, _, _, _, rfl, k + l, by omega, ?_⟩
  have e1 : (i + j + ((k + l : Nat) : Int)).toNat = (i + k).toNat + (j + l).toNat := by omega
  rw [e1, Int.pow_add, Int.pow_add]
  have : n * m * (2 ^ k * 2 ^ l) = (n * 2 ^ k) * (m * 2 ^ l) := by ac_rfl
  rw [this, ← he, ← hf]
  cases s <;> cases t <;> simp [Int.natCast_mul, Int.mul_neg, Int.mul_assoc, Int.mul_comm, Int.mul_left_comm]

theorem signed_eq (neg : Bool) (mag up : Nat) : signed neg mag up = if neg then -((mag : Int) * 2 ^ up) else (mag : Int) * 2 ^ up := by
  unfold signed
  rw [Nat.shiftLeft_eq]
  cases neg <;> simp

theorem rep_sum {d e : Datum} {n m : Int} (h : Rep d n) (g : Rep e m) : ∃ r, d.sum e = some r ∧ Rep r (n + m) := by
  obtain ⟨s, a, i, rfl, k, hk, he⟩ := h
  obtain ⟨t, b, j, rfl, l, hl, hf⟩ := g
  refine ⟨_, rfl, _, _, _, rfl, k + l, by omega, ?_⟩
  rw [signed_eq, signed_eq]
  have ha : (if s then -((a : Int) * 2 ^ (i - min i j).toNat) else (a : Int) * 2 ^ (i - min i j).toNat) * 2 ^ (min i j + ((k + l : Nat) : Int)).toNat = n * 2 ^ (k + l) := by
    have e1 : (i - min i j).toNat + (min i j + ((k + l : Nat) : Int)).toNat = (i + k).toNat + l := by omega
    rw [Int.pow_add, ← Int.mul_assoc, ← he]
    have e2 : (2 : Int) ^ (i - min i j).toNat * 2 ^ (min i j + ((k + l : Nat) : Int)).toNat = 2 ^ (i + k).toNat * 2 ^ l := by rw [← Int.pow_add, e1, Int.pow_add]
    cases s
    · simp only [Bool.false_eq_true, if_false]; rw [Int.mul_assoc, e2, Int.mul_assoc]
    · simp only [if_true]; rw [Int.neg_mul, Int.neg_mul, Int.mul_assoc, e2, Int.mul_assoc]
  have hb : (if t then -((b : Int) * 2 ^ (j - min i j).toNat) else (b : Int) * 2 ^ (j - min i j).toNat) * 2 ^ (min i j + ((k + l : Nat) : Int)).toNat = m * 2 ^ (k + l) := by
    have e1 : (j - min i j).toNat + (min i j + ((k + l : Nat) : Int)).toNat = (j + l).toNat + k := by omega
    have e3 : m * 2 ^ (k + l) = m * 2 ^ l * 2 ^ k := by rw [Int.mul_assoc, ← Int.pow_add, Nat.add_comm]
    rw [e3, ← hf]
    have e2 : (2 : Int) ^ (j - min i j).toNat * 2 ^ (min i j + ((k + l : Nat) : Int)).toNat = 2 ^ (j + l).toNat * 2 ^ k := by rw [← Int.pow_add, e1, Int.pow_add]
    cases t
    · simp only [Bool.false_eq_true, if_false]; rw [Int.mul_assoc, e2, Int.mul_assoc]
    · simp only [if_true]; rw [Int.neg_mul, Int.neg_mul, Int.mul_assoc, e2, Int.mul_assoc]
  rw [Int.add_mul, ← ha, ← hb, ← Int.add_mul]
  generalize (if s then -((a : Int) * 2 ^ (i - min i j).toNat) else (a : Int) * 2 ^ (i - min i j).toNat) + (if t then -((b : Int) * 2 ^ (j - min i j).toNat) else (b : Int) * 2 ^ (j - min i j).toNat) = tot
  by_cases h0 : tot = 0
  · subst h0; simp
  · by_cases hn : tot < 0
    · simp only [h0, if_false, hn, decide_true, if_true]
      rw [← Int.neg_mul]; congr 1; omega
    · simp only [h0, if_false, hn, decide_false, Bool.false_eq_true]
      congr 1; omega

theorem log2_shift {m : Nat} (h : m ≠ 0) (j : Nat) : (m * 2 ^ j).log2 = m.log2 + j := by
  have hp := Nat.two_pow_pos j
  have h1 := Nat.log2_self_le h
  have h2 : m < 2 ^ (m.log2 + 1) := Nat.lt_log2_self
  refine (Nat.log2_eq_iff (Nat.mul_ne_zero h (by omega))).2 ⟨?_, ?_⟩
  · rw [Nat.pow_add]; exact Nat.mul_le_mul_right _ h1
  · rw [show m.log2 + j + 1 = (m.log2 + 1) + j from by omega, Nat.pow_add]; exact Nat.mul_lt_mul_of_pos_right h2 hp

theorem cut_exact (way : Toward) (neg : Bool) (q drop : Nat) (hq : 0 < q) : way.cut neg (q * 2 ^ drop) drop = q := by
  have hle : drop ≤ (q * 2 ^ drop).log2 + 2 := by
    have h1 : 2 ^ drop ≤ q * 2 ^ drop := Nat.le_mul_of_pos_left _ hq
    have h2 : drop ≤ (q * 2 ^ drop).log2 := (Nat.le_log2 (by have := Nat.two_pow_pos drop; omega)).2 h1
    omega
  have hp := Nat.two_pow_pos drop
  unfold Toward.cut
  dsimp only
  rw [Nat.min_eq_left hle, Nat.shiftLeft_eq, Nat.one_mul, Nat.mul_div_cancel _ hp, Nat.mul_mod_left]
  cases way <;> simp <;> omega

theorem rep_zero_mag {neg : Bool} {mag : Nat} {place n : Int} (h : Rep (.number neg mag place) n) : mag = 0 ↔ n = 0 := by
  obtain ⟨_, _, _, he, k, hk, hv⟩ := h
  cases he
  have hp : (2 : Int) ^ (place + k).toNat ≠ 0 := Int.pow_ne_zero (by decide)
  have hq : (2 : Int) ^ k ≠ 0 := Int.pow_ne_zero (by decide)
  constructor
  · rintro rfl
    simp at hv
    rcases Int.mul_eq_zero.1 hv.symm with h | h
    · exact h
    · exact absurd h hq
  · rintro rfl
    simp at hv
    have : (mag : Int) * 2 ^ (place + k).toNat = 0 := by cases neg <;> simpa using hv
    rcases Int.mul_eq_zero.1 this with h | h
    · omega
    · exact absurd h hp

/-- The word of a datum that stands for a whole number below 2^53 stands for the same number. -/
theorem rep_write {d : Datum} {n : Int} (h : Rep d n) (hn : n.natAbs < 9007199254740992) : Rep (double.read (double.write d)) n := by
  obtain ⟨neg, mag, place, rfl, k, hk, hv⟩ := h
  by_cases h0 : mag = 0
  · have hz : n = 0 := (rep_zero_mag (neg := neg) ⟨_, _, _, rfl, k, hk, hv⟩).1 h0
    subst hz h0
    cases neg
    · exact ⟨false, 0, -1074, (by show double.read 0 = _; decide +kernel), 1074, by decide, (by rw [Int.zero_mul]; simp)⟩
    · exact ⟨true, 0, -1074, (by show double.read (double.signWeight + 0) = _; decide +kernel), 1074, by decide, (by rw [Int.zero_mul]; simp)⟩
  · have hnz : n ≠ 0 := fun e => h0 ((rep_zero_mag (neg := neg) ⟨_, _, _, rfl, k, hk, hv⟩).2 e)
    -- the number itself, without its sign
    obtain ⟨N, hN, hN0, hsig⟩ : ∃ N : Nat, n = (if neg then -(N : Int) else (N : Int)) ∧ 0 < N ∧ mag * 2 ^ (place + k).toNat = N * 2 ^ k := by
      have hp : (0 : Int) < 2 ^ (place + k).toNat := Int.pow_pos (by decide)
      have hq : (0 : Int) < 2 ^ k := Int.pow_pos (by decide)
      have hm : (0 : Int) < (mag : Int) * 2 ^ (place + k).toNat := Int.mul_pos (by omega) hp
      cases neg
      · simp only [Bool.false_eq_true, if_false] at *
        have : 0 < n := by
          rcases Int.lt_trichotomy n 0 with h | h | h
          · have := Int.mul_neg_of_neg_of_pos h hq; omega
          · exact absurd h hnz
          · exact h
        refine ⟨n.toNat, by omega, by omega, ?_⟩
        have e : ((n.toNat : Nat) : Int) = n := by omega
        have : ((mag * 2 ^ (place + k).toNat : Nat) : Int) = ((n.toNat * 2 ^ k : Nat) : Int) := by
          rw [Int.natCast_mul, Int.natCast_mul, e]; simpa using hv
        exact_mod_cast this
      · simp only [if_true] at *
        have : n < 0 := by
          rcases Int.lt_trichotomy n 0 with h | h | h
          · exact h
          · exact absurd h hnz
          · have := Int.mul_pos h hq; omega
        refine ⟨(-n).toNat, by omega, by omega, ?_⟩
        have e : (((-n).toNat : Nat) : Int) = -n := by omega
        have : ((mag * 2 ^ (place + k).toNat : Nat) : Int) = (((-n).toNat * 2 ^ k : Nat) : Int) := by
          rw [Int.natCast_mul, Int.natCast_mul, e, Int.natCast_pow, Int.natCast_pow, Int.neg_mul]; simp only [Int.cast_ofNat_Int]; omega
        exact_mod_cast this
    have hNb : N < 2 ^ 53 := by
      have : n.natAbs = N := by cases neg <;> simp at hN <;> omega
      rw [this] at hn; exact hn
    have hL : N.log2 ≤ 52 := by
      have := (Nat.log2_lt (by omega : N ≠ 0)).2 hNb
      omega
    have hlo := Nat.log2_self_le (by omega : N ≠ 0)
    have hhi : N < 2 ^ (N.log2 + 1) := Nat.lt_log2_self
    -- the place of the magnitude's highest digit
    have htop : place + (mag.log2 : Int) = N.log2 := by
      have h1 : (mag * 2 ^ (place + k).toNat).log2 = mag.log2 + (place + k).toNat := log2_shift h0 _
      have h2 : (N * 2 ^ k).log2 = N.log2 + k := log2_shift (by omega) _
      rw [hsig] at h1
      omega
    have hlast : max (place + (mag.log2 : Int) - (double.fractionBits : Int)) double.leastPlace = (N.log2 : Int) - 52 := by
      rw [htop, show (double.fractionBits : Int) = 52 from rfl, show double.leastPlace = -1074 from by decide +kernel]
      omega
    have hkept : Toward.even.cut neg (mag <<< (place - ((N.log2 : Int) - 52)).toNat) (((N.log2 : Int) - 52) - place).toNat = N * 2 ^ (52 - N.log2) := by
      rw [Nat.shiftLeft_eq]
      by_cases hpl : ((N.log2 : Int) - 52) ≤ place
      · have hz : (((N.log2 : Int) - 52) - place).toNat = 0 := by omega
        have hm : mag * 2 ^ (place - ((N.log2 : Int) - 52)).toNat = N * 2 ^ (52 - N.log2) := by
          have hk2 : (place - ((N.log2 : Int) - 52)).toNat + k = (place + k).toNat + (52 - N.log2) := by omega
          have : mag * 2 ^ (place - ((N.log2 : Int) - 52)).toNat * 2 ^ k = N * 2 ^ (52 - N.log2) * 2 ^ k := by
            rw [Nat.mul_assoc, ← Nat.pow_add, hk2, Nat.pow_add, ← Nat.mul_assoc, hsig]; ac_rfl
          exact Nat.eq_of_mul_eq_mul_right (Nat.two_pow_pos k) this
        rw [hz, hm]
        have := cut_exact .even neg (N * 2 ^ (52 - N.log2)) 0 (Nat.mul_pos hN0 (Nat.two_pow_pos _))
        simpa using this
      · have hz : (place - ((N.log2 : Int) - 52)).toNat = 0 := by omega
        have hm : mag = N * 2 ^ (52 - N.log2) * 2 ^ (((N.log2 : Int) - 52) - place).toNat := by
          have hk2 : (52 - N.log2) + (((N.log2 : Int) - 52) - place).toNat + (place + k).toNat = k := by omega
          have : mag * 2 ^ (place + k).toNat = N * 2 ^ (52 - N.log2) * 2 ^ (((N.log2 : Int) - 52) - place).toNat * 2 ^ (place + k).toNat := by
            rw [hsig, Nat.mul_assoc, Nat.mul_assoc, ← Nat.pow_add, ← Nat.pow_add, ← Nat.add_assoc, hk2]
          exact Nat.eq_of_mul_eq_mul_right (Nat.two_pow_pos _) this
        rw [hz, Nat.pow_zero, Nat.mul_one]
        rw [congrArg (fun m => Toward.even.cut neg m _) hm]
        exact cut_exact .even neg _ _ (Nat.mul_pos hN0 (Nat.two_pow_pos _))
    generalize hK : N * 2 ^ (52 - N.log2) = K at hkept
    have hK1 : 2 ^ 52 ≤ K := by
      rw [← hK, show (2 : Nat) ^ 52 = 2 ^ N.log2 * 2 ^ (52 - N.log2) from by rw [← Nat.pow_add]; congr 1; omega]
      exact Nat.mul_le_mul_right _ hlo
    have hK2 : K < 2 ^ 53 := by
      rw [← hK, show (2 : Nat) ^ 53 = 2 ^ (N.log2 + 1) * 2 ^ (52 - N.log2) from by rw [← Nat.pow_add]; congr 1; omega]
      exact Nat.mul_lt_mul_of_pos_right hhi (Nat.two_pow_pos _)
    have hwr : double.write (.number neg mag place) = double.word neg ((N.log2 + 1022) * 2 ^ 52 + K) := by
      show double.nearest neg mag place = _
      unfold Format.nearest
      rw [if_neg h0]
      simp only [hlast, hkept]
      rw [show double.leastPlace = -1074 from by decide +kernel, show double.binade = 2 ^ 52 from rfl, show double.infRung = 2047 * 2 ^ 52 from by decide +kernel]
      rw [show ((N.log2 : Int) - 52 - -1074).toNat = N.log2 + 1022 from by omega]
      rw [Nat.min_eq_left (by omega)]
    have hrd : double.read (double.word neg ((N.log2 + 1022) * 2 ^ 52 + K)) = .number neg K ((N.log2 : Int) - 52) := by
      have hsw : double.signWeight = 2 ^ 63 := by decide +kernel
      have hR : (N.log2 + 1022) * 2 ^ 52 + K < 2 ^ 63 := by omega
      have h1 : double.word neg ((N.log2 + 1022) * 2 ^ 52 + K) / double.signWeight % 2 = if neg then 1 else 0 := by
        unfold Format.word; rw [hsw]; cases neg <;> simp <;> omega
      have h2 : double.word neg ((N.log2 + 1022) * 2 ^ 52 + K) % double.signWeight = (N.log2 + 1022) * 2 ^ 52 + K := by
        unfold Format.word; rw [hsw]; cases neg <;> simp <;> omega
      unfold Format.read
      simp only [h1, h2]
      rw [show double.binade = 2 ^ 52 from rfl, show double.infRung = 2047 * 2 ^ 52 from by decide +kernel, show double.leastPlace = -1074 from by decide +kernel]
      rw [if_neg (by omega), if_pos (by omega)]
      have h3 : 2 ^ 52 + ((N.log2 + 1022) * 2 ^ 52 + K) % 2 ^ 52 = K := by omega
      have h4 : (-1074 : Int) + (((N.log2 + 1022) * 2 ^ 52 + K) / 2 ^ 52 - 1 : Nat) = (N.log2 : Int) - 52 := by omega
      rw [h3, h4]
      cases neg <;> simp
    rw [hwr, hrd]
    refine ⟨neg, K, _, rfl, 52, by omega, ?_⟩
    have e1 : ((N.log2 : Int) - 52 + ((52 : Nat) : Int)).toNat = N.log2 := by omega
    rw [e1]
    have e2 : (K : Int) * 2 ^ N.log2 = (N : Int) * 2 ^ 52 := by
      have : K * 2 ^ N.log2 = N * 2 ^ 52 := by
        rw [← hK, Nat.mul_assoc, ← Nat.pow_add]; congr 2; omega
      exact_mod_cast this
    rw [e2, hN]
    cases neg
    · rfl
    · simp only [if_true]; rw [Int.neg_mul]

theorem rep_toInt {d : Datum} {n : Int} (h : Rep d n) : d.toInt .zero = some n := by
  obtain ⟨neg, mag, place, rfl, k, hk, hv⟩ := h
  show some (signed neg (Toward.zero.cut neg (mag <<< place.toNat) (-place).toNat) 0) = some n
  rw [signed_eq]
  congr 1
  have hq : (2 : Int) ^ k ≠ 0 := Int.pow_ne_zero (by decide)
  rw [Nat.shiftLeft_eq]
  by_cases h0 : mag = 0
  · have hz : n = 0 := (rep_zero_mag (neg := neg) ⟨_, _, _, rfl, k, hk, hv⟩).1 h0
    subst hz h0
    have : Toward.zero.cut neg (0 * 2 ^ place.toNat) (-place).toNat = 0 := by unfold Toward.cut; simp
    rw [this]; simp
  by_cases hp : 0 ≤ place
  · have e0 : (-place).toNat = 0 := by omega
    have e1 : (place + k).toNat = place.toNat + k := by omega
    rw [e0]
    have hc := cut_exact .zero neg (mag * 2 ^ place.toNat) 0 (Nat.mul_pos (by omega) (Nat.two_pow_pos _))
    rw [Nat.pow_zero, Nat.mul_one] at hc
    rw [hc]
    have : (if neg then -((mag : Int) * 2 ^ place.toNat) else (mag : Int) * 2 ^ place.toNat) * 2 ^ k = n * 2 ^ k := by
      rw [← hv, e1, Int.pow_add]; cases neg <;> simp [Int.neg_mul, Int.mul_assoc]
    have := Int.eq_of_mul_eq_mul_right hq this
    rw [← this]; cases neg <;> simp
  · have e0 : place.toNat = 0 := by omega
    rw [e0, Nat.pow_zero, Nat.mul_one]
    -- the magnitude is a multiple of 2 ^ (-place)
    obtain ⟨N, hN, hN0, hsig⟩ : ∃ N : Nat, n = (if neg then -(N : Int) else (N : Int)) ∧ 0 < N ∧ mag * 2 ^ (place + k).toNat = N * 2 ^ k := by
      have hpp : (0 : Int) < 2 ^ (place + k).toNat := Int.pow_pos (by decide)
      have hqq : (0 : Int) < 2 ^ k := Int.pow_pos (by decide)
      have hm : (0 : Int) < (mag : Int) * 2 ^ (place + k).toNat := Int.mul_pos (by omega) hpp
      cases neg
      · simp only [Bool.false_eq_true, if_false] at *
        have : 0 < n := by
          rcases Int.lt_trichotomy n 0 with h | h | h
          · have := Int.mul_neg_of_neg_of_pos h hqq; omega
          · rw [h] at hv; simp at hv; omega
          · exact h
        refine ⟨n.toNat, by omega, by omega, ?_⟩
        have e : ((n.toNat : Nat) : Int) = n := by omega
        have : ((mag * 2 ^ (place + k).toNat : Nat) : Int) = ((n.toNat * 2 ^ k : Nat) : Int) := by
          rw [Int.natCast_mul, Int.natCast_mul, e]; simpa using hv
        exact_mod_cast this
      · simp only [if_true] at *
        have : n < 0 := by
          rcases Int.lt_trichotomy n 0 with h | h | h
          · exact h
          · rw [h] at hv; simp at hv; omega
          · have := Int.mul_pos h hqq; omega
        refine ⟨(-n).toNat, by omega, by omega, ?_⟩
        have e : (((-n).toNat : Nat) : Int) = -n := by omega
        have : ((mag * 2 ^ (place + k).toNat : Nat) : Int) = (((-n).toNat * 2 ^ k : Nat) : Int) := by
          rw [Int.natCast_mul, Int.natCast_mul, e, Int.natCast_pow, Int.natCast_pow, Int.neg_mul]; simp only [Int.cast_ofNat_Int]; omega
        exact_mod_cast this
    have hm : mag = N * 2 ^ (-place).toNat := by
      have hk2 : (-place).toNat + (place + k).toNat = k := by omega
      have : mag * 2 ^ (place + k).toNat = N * 2 ^ (-place).toNat * 2 ^ (place + k).toNat := by
        rw [hsig, Nat.mul_assoc, ← Nat.pow_add, hk2]
      exact Nat.eq_of_mul_eq_mul_right (Nat.two_pow_pos _) this
    rw [congrArg (fun m => Toward.zero.cut neg m _) hm, cut_exact .zero neg _ _ hN0, hN]
    cases neg <;> simp

/-- The word stands for n. -/
def Is (b : Nat) (n : Int) : Prop := Rep (double.read b) n

theorem is_int (n : Int) (h : n.natAbs < 9007199254740992) : Is (floatOfInt .f64 n) n := rep_write (rep_int n) h

theorem is_mul {a b : Nat} {n m : Int} (ha : Is a n) (hb : Is b m) (h : (n * m).natAbs < 9007199254740992) : ∃ r, double.mul a b = some r ∧ Is r (n * m) := by
  obtain ⟨d, hd, hr⟩ := rep_prod ha hb
  exact ⟨_, by unfold Format.mul; rw [hd]; rfl, rep_write hr h⟩
theorem is_add {a b : Nat} {n m : Int} (ha : Is a n) (hb : Is b m) (h : (n + m).natAbs < 9007199254740992) : ∃ r, double.add a b = some r ∧ Is r (n + m) := by
  obtain ⟨d, hd, hr⟩ := rep_sum ha hb
  exact ⟨_, by unfold Format.add; rw [hd]; rfl, rep_write hr h⟩
theorem is_sub {a b : Nat} {n m : Int} (ha : Is a n) (hb : Is b m) (h : (n - m).natAbs < 9007199254740992) : ∃ r, double.sub a b = some r ∧ Is r (n - m) := by
  obtain ⟨d, hd, hr⟩ := rep_sum ha (rep_opp hb)
  exact ⟨_, by unfold Format.sub; rw [hd]; rfl, rep_write hr h⟩
end Go.Proofs.YthncmfchphigdaaDoor.Flt
namespace Go.Proofs.YthncmfchphigdaaDoor.Flt
open Go Ieee
theorem is_toInt {b : Nat} {n : Int} (h : Is b n) (hb : n.natAbs < 9007199254740992) : floatToIntVal .f64 b .i64 = some n := by
  unfold floatToIntVal
  have : (FloatKind.f64.decode b).toInt .zero = some n := rep_toInt h
  rw [this]
  have e1 : IntKind.i64.min = -9223372036854775808 := by decide
  have e2 : IntKind.i64.max = 9223372036854775807 := by decide
  have : IntKind.i64.min ≤ n ∧ n ≤ IntKind.i64.max := by rw [e1, e2]; omega
  simp only [this, and_self, if_true]
theorem is_csum {a b c d : Nat} {n m p q : Int} (ha : Is a n) (hb : Is b m) (hc : Is c p) (hd : Is d q)
    (h1 : (n + p).natAbs < 9007199254740992) (h2 : (m + q).natAbs < 9007199254740992) :
    ∃ re im, cSumBits .add .f64 a b c d = some (re, im) ∧ Is re (n + p) ∧ Is im (m + q) := by
  obtain ⟨re, hre, ire⟩ := is_add ha hc h1
  obtain ⟨im, him, iim⟩ := is_add hb hd h2
  refine ⟨re, im, ?_, ire, iim⟩
  simp [cSumBits, floatBits, FloatKind.format, hre, him]
theorem is_cmul {a b c d : Nat} {n m p q : Int} (ha : Is a n) (hb : Is b m) (hc : Is c p) (hd : Is d q)
    (h1 : (n * p).natAbs < 9007199254740992) (h2 : (m * q).natAbs < 9007199254740992) (h3 : (n * p - m * q).natAbs < 9007199254740992)
    (h4 : (n * q).natAbs < 9007199254740992) (h5 : (m * p).natAbs < 9007199254740992) (h6 : (n * q + m * p).natAbs < 9007199254740992) :
    ∃ re im, cMulBits a b c d = some (re, im) ∧ Is re (n * p - m * q) ∧ Is im (n * q + m * p) := by
  obtain ⟨ac, hac, iac⟩ := is_mul ha hc h1
  obtain ⟨bd, hbd, ibd⟩ := is_mul hb hd h2
  obtain ⟨re, hre, ire⟩ := is_sub iac ibd h3
  obtain ⟨ad, had, iad⟩ := is_mul ha hd h4
  obtain ⟨bc, hbc, ibc⟩ := is_mul hb hc h5
  obtain ⟨im, him, iim⟩ := is_add iad ibc h6
  refine ⟨re, im, ?_, ire, iim⟩
  simp [cMulBits, floatBits, FloatKind.format, hac, hbd, hre, had, hbc, him]
theorem is_zero : Is 0 0 := ⟨false, 0, -1074, by decide +kernel, 1074, by decide, by rw [Int.zero_mul]; simp⟩
theorem is_one : Is 4607182418800017408 1 := ⟨false, 4503599627370496, -52, by decide +kernel, 52, by decide, by decide +kernel⟩
theorem is_neg {b : Nat} {n : Int} (h : Is b n) : Is (Op.negFloat .f64 b) (-n) := by
  have e : double.read (Op.negFloat .f64 b) = (double.read b).opposite := by
    have hsw : double.signWeight = 2 ^ 63 := by decide +kernel
    have hn : Op.negFloat .f64 b = b ^^^ 2 ^ 63 := rfl
    have h1 : (b ^^^ 2 ^ 63) % 2 ^ 63 = b % 2 ^ 63 := by rw [Nat.xor_mod_two_pow]; simp
    have h2 : (b ^^^ 2 ^ 63) / 2 ^ 63 % 2 = 1 - b / 2 ^ 63 % 2 := by
      rw [← Nat.shiftRight_eq_div_pow, ← Nat.shiftRight_eq_div_pow, Nat.shiftRight_xor_distrib]
      rw [show (2 ^ 63) >>> 63 = 1 from by decide +kernel]
      have hx : (b >>> 63 ^^^ 1) % 2 = b >>> 63 % 2 ^^^ 1 := Nat.xor_mod_two_pow (a := b >>> 63) (b := 1) (n := 1)
      rw [hx]
      rcases Nat.mod_two_eq_zero_or_one (b >>> 63) with h | h <;> rw [h] <;> rfl
    unfold Format.read
    simp only [hn, hsw, h1, h2]
    have : (1 - b / 2 ^ 63 % 2 == 1) = !(b / 2 ^ 63 % 2 == 1) := by
      rcases Nat.mod_two_eq_zero_or_one (b / 2 ^ 63) with h | h <;> rw [h] <;> rfl
    rw [this]
    split
    · rfl
    · split
      · rfl
      · split <;> rfl
  unfold Is
  rw [e]
  exact rep_opp h
end Go.Proofs.YthncmfchphigdaaDoor.Flt
