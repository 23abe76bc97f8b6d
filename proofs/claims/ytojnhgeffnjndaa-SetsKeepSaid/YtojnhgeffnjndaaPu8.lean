import Derived.Test.YtojnhgeffnjndaaS3
import Derived.Lib.SlicesCompact
import Derived.Lib.RowBridge
namespace Go.Proofs.Ytojnhgeffnjndaa.T
open Go Go.RowKit Mem
set_option maxRecDepth 100000
set_option linter.unusedVariables false
set_option linter.unusedSimpArgs false
abbrev sUni (a : List ByteArray) (s : ByteArray) (f t : Bool) : List ByteArray := a ++ [s]
abbrev sMeet (a : List ByteArray) (s : ByteArray) (f t : Bool) : List ByteArray := if (f && t) = true then a ++ [s] else a
abbrev sLess (a : List ByteArray) (s : ByteArray) (f t : Bool) : List ByteArray := if (f && !t) = true then a ++ [s] else a
abbrev sIn (a : Bool) (s : ByteArray) (f t : Bool) : Bool := a && (!f || t)
def uni (a b : List ByteArray) : List ByteArray := mrg sUni a b []
def mee (a b : List ByteArray) : List ByteArray := mrg sMeet a b []
def les (a b : List ByteArray) : List ByteArray := mrg sLess a b []
def ins (a b : List ByteArray) : Bool := mrg sIn a b true

theorem lti (x : List UInt8) : ¬ x < x := List.lt_irrefl x
theorem ltt {x y z : List UInt8} (h : x < y) (h' : y < z) : x < z := List.lt_trans h h'
theorem srt_tail {x : ByteArray} {l : List ByteArray} (h : Srt (x :: l)) : Srt l := (List.pairwise_cons.1 h).2
theorem srt_head {x : ByteArray} {l : List ByteArray} (h : Srt (x :: l)) : ∀ y ∈ l, x.toList < y.toList := (List.pairwise_cons.1 h).1
theorem srt_notin {x : ByteArray} {l : List ByteArray} (h : Srt (x :: l)) : x ∉ l := fun hm => lti _ (srt_head h x hm)
theorem below_notin {x y : ByteArray} {l : List ByteArray} (h : Srt (y :: l)) (hx : x.toList < y.toList) : x ∉ y :: l := by
  intro hm
  rcases List.mem_cons.1 hm with rfl | hm
  · exact lti _ hx
  · exact lti _ (ltt hx (srt_head h x hm))

/-- Each of the two ways of a list that rises is known by what is in it. -/
theorem srt_ext {a b : List ByteArray} (ha : Srt a) (hb : Srt b) (h : ∀ x, x ∈ a ↔ x ∈ b) : a = b := by
  induction a generalizing b with
  | nil =>
    cases b with
    | nil => rfl
    | cons y b => exact absurd ((h y).2 (by simp)) (by simp)
  | cons x a ih =>
    cases b with
    | nil => exact absurd ((h x).1 (by simp)) (by simp)
    | cons y b =>
      have hxy : x = y := by
        rcases List.mem_cons.1 ((h x).1 (by simp)) with e | e
        · exact e
        · rcases List.mem_cons.1 ((h y).2 (by simp)) with e' | e'
          · exact e'.symm
          · exact absurd (ltt (srt_head hb x e) (srt_head ha y e')) (lti _)
      subst hxy
      congr 1
      refine ih (srt_tail ha) (srt_tail hb) fun z => ?_
      have := h z
      constructor
      · intro hz
        rcases List.mem_cons.1 (this.1 (by simp [hz])) with rfl | h'
        · exact absurd hz (srt_notin ha)
        · exact h'
      · intro hz
        rcases List.mem_cons.1 (this.2 (by simp [hz])) with rfl | h'
        · exact absurd hz (srt_notin hb)
        · exact h'

theorem uni_mem' (x : ByteArray) : ∀ (a b acc : List ByteArray), x ∈ mrg sUni a b acc ↔ x ∈ acc ∨ x ∈ a ∨ x ∈ b
  | [], [], acc => by rw [mrg]; simp
  | p :: a, [], acc => by rw [mrg, uni_mem' x a []]; simp; grind
  | [], q :: b, acc => by rw [mrg, uni_mem' x [] b]; simp; grind
  | p :: a, q :: b, acc => by
    rw [mrg]
    by_cases h1 : p.toList < q.toList
    · rw [if_pos h1, uni_mem' x a (q :: b)]; simp; grind
    · rw [if_neg h1]
      by_cases h2 : p = q
      · rw [if_pos h2, uni_mem' x a b]; simp; grind
      · rw [if_neg h2, uni_mem' x (p :: a) b]; simp; grind
termination_by a b => a.length + b.length
decreasing_by all_goals simp <;> omega

theorem meet_mem' (x : ByteArray) : ∀ (a b acc : List ByteArray), Srt a → Srt b → (x ∈ mrg sMeet a b acc ↔ x ∈ acc ∨ (x ∈ a ∧ x ∈ b))
  | [], [], acc, _, _ => by rw [mrg]; simp
  | p :: a, [], acc, ha, hb => by rw [mrg, meet_mem' x a [] _ (srt_tail ha) hb]; simp [sMeet]
  | [], q :: b, acc, ha, hb => by rw [mrg, meet_mem' x [] b _ ha (srt_tail hb)]; simp [sMeet]
  | p :: a, q :: b, acc, ha, hb => by
    rw [mrg]
    by_cases h1 : p.toList < q.toList
    · have hn := below_notin hb h1
      rw [if_pos h1, meet_mem' x a (q :: b) _ (srt_tail ha) hb]; simp at hn ⊢; grind
    · rw [if_neg h1]
      by_cases h2 : p = q
      · have hn := srt_notin hb; have hm := srt_notin ha
        rw [if_pos h2, meet_mem' x a b _ (srt_tail ha) (srt_tail hb)]; simp; grind
      · have hn := below_notin ha (lt_or h1 h2)
        rw [if_neg h2, meet_mem' x (p :: a) b _ ha (srt_tail hb)]; simp at hn ⊢; grind
termination_by a b => a.length + b.length
decreasing_by all_goals simp <;> omega

theorem less_mem' (x : ByteArray) : ∀ (a b acc : List ByteArray), Srt a → Srt b → (x ∈ mrg sLess a b acc ↔ x ∈ acc ∨ (x ∈ a ∧ x ∉ b))
  | [], [], acc, _, _ => by rw [mrg]; simp
  | p :: a, [], acc, ha, hb => by rw [mrg, less_mem' x a [] _ (srt_tail ha) hb]; simp; grind
  | [], q :: b, acc, ha, hb => by rw [mrg, less_mem' x [] b _ ha (srt_tail hb)]; simp [sLess]
  | p :: a, q :: b, acc, ha, hb => by
    rw [mrg]
    by_cases h1 : p.toList < q.toList
    · have hn := below_notin hb h1
      rw [if_pos h1, less_mem' x a (q :: b) _ (srt_tail ha) hb]; simp at hn ⊢; grind
    · rw [if_neg h1]
      by_cases h2 : p = q
      · have hn := srt_notin hb; have hm := srt_notin ha
        rw [if_pos h2, less_mem' x a b _ (srt_tail ha) (srt_tail hb)]; simp; grind
      · have hn := below_notin ha (lt_or h1 h2)
        rw [if_neg h2, less_mem' x (p :: a) b _ ha (srt_tail hb)]; simp at hn ⊢; grind
termination_by a b => a.length + b.length
decreasing_by all_goals simp <;> omega

theorem in_iff' : ∀ (a b : List ByteArray) (acc : Bool), Srt a → Srt b → (mrg sIn a b acc = true ↔ acc = true ∧ ∀ x ∈ a, x ∈ b)
  | [], [], acc, _, _ => by rw [mrg]; simp
  | p :: a, [], acc, ha, hb => by rw [mrg, in_iff' a [] _ (srt_tail ha) hb]; simp; exact fun _ => ⟨p, fun h => absurd rfl h⟩
  | [], q :: b, acc, ha, hb => by rw [mrg, in_iff' [] b _ ha (srt_tail hb)]; simp
  | p :: a, q :: b, acc, ha, hb => by
    rw [mrg]
    by_cases h1 : p.toList < q.toList
    · have hn := below_notin hb h1
      rw [if_pos h1, in_iff' a (q :: b) _ (srt_tail ha) hb]; simp at hn ⊢; grind
    · rw [if_neg h1]
      by_cases h2 : p = q
      · have hn := srt_notin hb; have hm := srt_notin ha
        rw [if_pos h2, in_iff' a b _ (srt_tail ha) (srt_tail hb)]; simp; grind
      · have hn := below_notin ha (lt_or h1 h2)
        rw [if_neg h2, in_iff' (p :: a) b _ ha (srt_tail hb)]; simp at hn ⊢; grind
termination_by a b => a.length + b.length
decreasing_by all_goals simp <;> omega

theorem srt_snoc {l : List ByteArray} {s : ByteArray} (h : Srt l) (hs : ∀ x ∈ l, x.toList < s.toList) : Srt (l ++ [s]) := by
  refine List.pairwise_append.2 ⟨h, List.pairwise_singleton _ _, fun x hx y hy => ?_⟩
  rw [List.mem_singleton.1 hy]; exact hs x hx

/-- A step that appends what it is handed, or nothing, makes a list that rises. -/
theorem mrg_srt (step : List ByteArray → ByteArray → Bool → Bool → List ByteArray) (hst : ∀ a s f t, step a s f t = a ∨ step a s f t = a ++ [s]) : ∀ (a b acc : List ByteArray), Srt a → Srt b → Srt acc →
    (∀ x ∈ acc, ∀ y ∈ a, x.toList < y.toList) → (∀ x ∈ acc, ∀ y ∈ b, x.toList < y.toList) → Srt (mrg step a b acc)
  | [], [], acc, _, _, hc, _, _ => by rw [mrg]; exact hc
  | p :: a, [], acc, ha, hb, hc, h1, h2 => by
    rw [mrg]
    rcases hst acc p true false with e | e <;> rw [e]
    · exact mrg_srt step hst a [] acc (srt_tail ha) hb hc (fun x hx y hy => h1 x hx y (by simp [hy])) (by simp)
    · exact mrg_srt step hst a [] _ (srt_tail ha) hb (srt_snoc hc fun x hx => h1 x hx p (by simp)) (fun x hx y hy => by
        rcases List.mem_append.1 hx with hx | hx
        · exact h1 x hx y (by simp [hy])
        · rw [List.mem_singleton.1 hx]; exact srt_head ha y hy) (by simp)
  | [], q :: b, acc, ha, hb, hc, h1, h2 => by
    rw [mrg]
    rcases hst acc q false true with e | e <;> rw [e]
    · exact mrg_srt step hst [] b acc ha (srt_tail hb) hc (by simp) (fun x hx y hy => h2 x hx y (by simp [hy]))
    · exact mrg_srt step hst [] b _ ha (srt_tail hb) (srt_snoc hc fun x hx => h2 x hx q (by simp)) (by simp) (fun x hx y hy => by
        rcases List.mem_append.1 hx with hx | hx
        · exact h2 x hx y (by simp [hy])
        · rw [List.mem_singleton.1 hx]; exact srt_head hb y hy)
  | p :: a, q :: b, acc, ha, hb, hc, h1, h2 => by
    rw [mrg]
    by_cases g1 : p.toList < q.toList
    · rw [if_pos g1]
      rcases hst acc p true false with e | e <;> rw [e]
      · exact mrg_srt step hst a (q :: b) acc (srt_tail ha) hb hc (fun x hx y hy => h1 x hx y (by simp [hy])) h2
      · exact mrg_srt step hst a (q :: b) _ (srt_tail ha) hb (srt_snoc hc fun x hx => h1 x hx p (by simp)) (fun x hx y hy => by
          rcases List.mem_append.1 hx with hx | hx
          · exact h1 x hx y (by simp [hy])
          · rw [List.mem_singleton.1 hx]; exact srt_head ha y hy) (fun x hx y hy => by
          rcases List.mem_append.1 hx with hx | hx
          · exact h2 x hx y hy
          · rw [List.mem_singleton.1 hx]
            rcases List.mem_cons.1 hy with rfl | hy
            · exact g1
            · exact ltt g1 (srt_head hb y hy))
    · rw [if_neg g1]
      by_cases g2 : p = q
      · rw [if_pos g2]
        rcases hst acc q true true with e | e <;> rw [e]
        · exact mrg_srt step hst a b acc (srt_tail ha) (srt_tail hb) hc (fun x hx y hy => h1 x hx y (by simp [hy])) (fun x hx y hy => h2 x hx y (by simp [hy]))
        · exact mrg_srt step hst a b _ (srt_tail ha) (srt_tail hb) (srt_snoc hc fun x hx => h2 x hx q (by simp)) (fun x hx y hy => by
            rcases List.mem_append.1 hx with hx | hx
            · exact h1 x hx y (by simp [hy])
            · rw [List.mem_singleton.1 hx, ← g2]; exact srt_head ha y hy) (fun x hx y hy => by
            rcases List.mem_append.1 hx with hx | hx
            · exact h2 x hx y (by simp [hy])
            · rw [List.mem_singleton.1 hx]; exact srt_head hb y hy)
      · have g3 := lt_or g1 g2
        rw [if_neg g2]
        rcases hst acc q false true with e | e <;> rw [e]
        · exact mrg_srt step hst (p :: a) b acc ha (srt_tail hb) hc h1 (fun x hx y hy => h2 x hx y (by simp [hy]))
        · exact mrg_srt step hst (p :: a) b _ ha (srt_tail hb) (srt_snoc hc fun x hx => h2 x hx q (by simp)) (fun x hx y hy => by
            rcases List.mem_append.1 hx with hx | hx
            · exact h1 x hx y hy
            · rw [List.mem_singleton.1 hx]
              rcases List.mem_cons.1 hy with rfl | hy
              · exact g3
              · exact ltt g3 (srt_head ha y hy)) (fun x hx y hy => by
            rcases List.mem_append.1 hx with hx | hx
            · exact h2 x hx y (by simp [hy])
            · rw [List.mem_singleton.1 hx]; exact srt_head hb y hy)
termination_by a b => a.length + b.length
decreasing_by all_goals simp <;> omega

theorem uni_mem {a b : List ByteArray} {x : ByteArray} : x ∈ uni a b ↔ x ∈ a ∨ x ∈ b := by unfold uni; rw [uni_mem']; simp
theorem mee_mem {a b : List ByteArray} (ha : Srt a) (hb : Srt b) {x : ByteArray} : x ∈ mee a b ↔ x ∈ a ∧ x ∈ b := by unfold mee; rw [meet_mem' x a b [] ha hb]; simp
theorem les_mem {a b : List ByteArray} (ha : Srt a) (hb : Srt b) {x : ByteArray} : x ∈ les a b ↔ x ∈ a ∧ x ∉ b := by unfold les; rw [less_mem' x a b [] ha hb]; simp
theorem ins_iff {a b : List ByteArray} (ha : Srt a) (hb : Srt b) : ins a b = true ↔ ∀ x ∈ a, x ∈ b := by unfold ins; rw [in_iff' a b true ha hb]; simp
theorem uni_srt {a b : List ByteArray} (ha : Srt a) (hb : Srt b) : Srt (uni a b) := mrg_srt sUni (fun a s f t => .inr rfl) a b [] ha hb List.Pairwise.nil (by simp) (by simp)
theorem mee_srt {a b : List ByteArray} (ha : Srt a) (hb : Srt b) : Srt (mee a b) := mrg_srt sMeet (fun a s f t => by unfold sMeet; split <;> simp) a b [] ha hb List.Pairwise.nil (by simp) (by simp)
theorem les_srt {a b : List ByteArray} (ha : Srt a) (hb : Srt b) : Srt (les a b) := mrg_srt sLess (fun a s f t => by unfold sLess; split <;> simp) a b [] ha hb List.Pairwise.nil (by simp) (by simp)
theorem mrg_len (step : List ByteArray → ByteArray → Bool → Bool → List ByteArray) (hst : ∀ a s f t, step a s f t = a ∨ step a s f t = a ++ [s]) : ∀ (a b acc : List ByteArray), (mrg step a b acc).length ≤ acc.length + a.length + b.length
  | [], [], acc => by rw [mrg]; simp
  | p :: a, [], acc => by
    rw [mrg]; have := mrg_len step hst a [] (step acc p true false)
    rcases hst acc p true false with e | e <;> rw [e] at this ⊢ <;> simp at this ⊢ <;> omega
  | [], q :: b, acc => by
    rw [mrg]; have := mrg_len step hst [] b (step acc q false true)
    rcases hst acc q false true with e | e <;> rw [e] at this ⊢ <;> simp at this ⊢ <;> omega
  | p :: a, q :: b, acc => by
    rw [mrg]
    split
    · have := mrg_len step hst a (q :: b) (step acc p true false)
      rcases hst acc p true false with e | e <;> rw [e] at this ⊢ <;> simp at this ⊢ <;> omega
    · split
      · have := mrg_len step hst a b (step acc q true true)
        rcases hst acc q true true with e | e <;> rw [e] at this ⊢ <;> simp at this ⊢ <;> omega
      · have := mrg_len step hst (p :: a) b (step acc q false true)
        rcases hst acc q false true with e | e <;> rw [e] at this ⊢ <;> simp at this ⊢ <;> omega
termination_by a b => a.length + b.length
decreasing_by all_goals simp <;> omega
theorem uni_len (a b : List ByteArray) : (uni a b).length ≤ a.length + b.length := by have := mrg_len sUni (fun a s f t => .inr rfl) a b []; simpa [uni] using this
theorem mee_len (a b : List ByteArray) : (mee a b).length ≤ a.length + b.length := by have := mrg_len sMeet (fun a s f t => by unfold sMeet; split <;> simp) a b []; simpa [mee] using this
theorem les_len (a b : List ByteArray) : (les a b).length ≤ a.length + b.length := by have := mrg_len sLess (fun a s f t => by unfold sLess; split <;> simp) a b []; simpa [les] using this
end Go.Proofs.Ytojnhgeffnjndaa.T
