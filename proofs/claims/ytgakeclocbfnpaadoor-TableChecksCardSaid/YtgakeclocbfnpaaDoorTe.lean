import Derived.Test.YtgakeclocbfnpaaDoorTa
import Derived.Test.YtgakeclocbfnpaaDoorTb
import Derived.Test.YtgakeclocbfnpaaDoorTc
import Derived.Lib.MapLaws
import Derived.Lib.TrimAscii
import Derived.Lib.TrimU
namespace Go.Proofs.YtgakeclocbfnpaaDoor.T
open Go Go.RowKit Mem
set_option maxRecDepth 100000
set_option maxHeartbeats 8000000
set_option linter.unusedVariables false
set_option linter.unusedSimpArgs false

/-- What a letter of a name becomes. -/
def upr (c : Int) : Int := if 97 ≤ c ∧ c ≤ 122 then c - 32 else c
theorem enc_hi (r : Int) (h : 128 ≤ r) : ∃ x t, Lib.encodeRune r = x :: t ∧ 128 ≤ x.toNat := by
  unfold Lib.encodeRune Lib.encodeRuneZ
  rw [if_neg (by omega)]
  split
  · refine ⟨_, _, rfl, ?_⟩
    have : (192 + r / 64).toNat < 256 := by omega
    simp [Nat.toUInt8, UInt8.toNat_ofNat']; omega
  split
  · refine ⟨_, _, rfl, ?_⟩
    simp [Nat.toUInt8, UInt8.toNat_ofNat']; omega
  split
  · refine ⟨_, _, rfl, ?_⟩
    simp [Nat.toUInt8, UInt8.toNat_ofNat']; omega
  · exact ⟨_, _, rfl, by decide⟩
theorem dec_hi (c : UInt8) (l : List UInt8) (h : 128 ≤ c.toNat) : 128 ≤ (Lib.decodeL (c :: l)).1 := by
  by_cases hv : (Lib.decodeL (c :: l)).1 = 65533 ∧ (Lib.decodeL (c :: l)).2 = 1
  · rw [hv.1]; decide
  · have := Lib.encode_decode (c :: l) (by simp) hv
    rcases Nat.lt_or_ge (Lib.decodeL (c :: l)).1 128 with h1 | h1
    · exfalso
      have hw := Lib.decodeL_width (c :: l)
      obtain ⟨n, hn⟩ : ∃ n, (Lib.decodeL (c :: l)).2 = n + 1 := ⟨_, (Nat.sub_add_cancel hw).symm⟩
      rw [hn, List.take_succ_cons] at this
      unfold Lib.encodeRune at this
      rw [Lib.encodeRuneZ_one (by omega) (by omega)] at this
      simp only [List.map_cons, List.map_nil, List.cons.injEq] at this
      have h2 := congrArg UInt8.toNat this.1
      simp [Nat.toUInt8, UInt8.toNat_ofNat'] at h2
      omega
    · exact h1
theorem upr_hi {r : Int} (h : 128 ≤ r) : upr r = r := by unfold upr; rw [if_neg (by omega)]
theorem upc_hi {c : UInt8} (h : 128 ≤ c.toNat) : upc c = c := by unfold upc; rw [if_neg (by omega)]
theorem upr_lo (c : UInt8) (h : c.toNat < 128) : 0 ≤ upr c.toNat ∧ Lib.encodeRune (upr c.toNat) = [upc c] := by
  have hu : upr c.toNat = (upc c).toNat := by
    unfold upr
    by_cases h1 : 97 ≤ (c.toNat : Int) ∧ (c.toNat : Int) ≤ 122
    · rw [if_pos h1, upc_yes h1.1 h1.2]
    · rw [if_neg h1, upc_no h1]
  have hl : (upc c).toNat < 128 := by
    by_cases h1 : 97 ≤ (c.toNat : Int) ∧ (c.toNat : Int) ≤ 122
    · have := upc_yes h1.1 h1.2; omega
    · have := upc_no h1; omega
  refine ⟨by omega, ?_⟩
  rw [hu]
  unfold Lib.encodeRune
  rw [Lib.encodeRuneZ_one (by omega) (by omega)]
  simp
/-- Against a plain text strings.Map does what a map of the bytes does. -/
theorem mapD_plain : ∀ (n : Nat) (l t : List UInt8), l.length ≤ n → (∀ c ∈ t, c.toNat < 128) → (Lib.mapD upr l = t ↔ l.map upc = t)
  | 0, l, t, hn, ht => by
    obtain rfl : l = [] := List.length_eq_zero_iff.1 (by omega)
    simp [Lib.mapD, Lib.mapGoD]
  | n + 1, [], t, hn, ht => by simp [Lib.mapD, Lib.mapGoD]
  | n + 1, c :: l, t, hn, ht => by
    rw [Lib.mapD_step upr (c :: l) (by simp), List.map_cons]
    by_cases hc : c.toNat < 128
    · rw [Lib.decodeL_ascii c l hc]
      have := upr_lo c hc
      rw [if_pos this.1, this.2]
      simp only [List.drop_succ_cons, List.drop_zero, List.singleton_append]
      cases t with
      | nil => simp
      | cons x t =>
        rw [List.cons.injEq, List.cons.injEq, mapD_plain n l t (by simpa using hn) (fun c hc => ht c (by simp [hc]))]
    · have hd := dec_hi c l (by omega)
      have hu := upr_hi (r := ((Lib.decodeL (c :: l)).1 : Int)) (by omega)
      rw [hu, if_pos (by omega)]
      obtain ⟨x, y, he, hx⟩ := enc_hi ((Lib.decodeL (c :: l)).1 : Int) (by omega)
      rw [he, upc_hi (by omega)]
      cases t with
      | nil => simp
      | cons z t =>
        have hz := ht z (by simp)
        constructor
        · intro h
          simp only [List.cons_append, List.cons.injEq] at h
          rw [h.1] at hx; omega
        · intro h
          simp only [List.cons.injEq] at h
          rw [h.1] at hc; omega
/-- A name in great letters, as table.upper makes it. -/
def upB (s : ByteArray) : ByteArray := ⟨(Lib.mapD upr s.data.toList).toArray⟩
theorem names_plain : ∀ k, k < 47 → (∀ c ∈ (sp k).name.data.toList, c.toNat < 128) ∧ up (sp k).name = (sp k).name.data.toList := by decide +kernel
theorem upper_alike {k : Nat} (hk : k < 47) (s : ByteArray) : (sp k).name = upB s ↔ up (sp k).name = up s := by
  obtain ⟨h1, h2⟩ := names_plain k hk
  have := mapD_plain _ s.data.toList (sp k).name.data.toList (Nat.le_refl _) h1
  rw [h2]
  unfold up
  constructor
  · intro h
    have h' : Lib.mapD upr s.data.toList = (sp k).name.data.toList := by rw [h]; simp [upB]
    exact (this.1 h').symm
  · intro h
    have h' := this.2 h.symm
    unfold upB
    rw [h']
end Go.Proofs.YtgakeclocbfnpaaDoor.T
