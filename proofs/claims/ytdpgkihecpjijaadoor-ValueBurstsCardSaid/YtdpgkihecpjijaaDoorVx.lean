import Derived.Deep.DeepCutAuto
import Derived.Laws.OwnMore
import Derived.OwnWalk
import Derived.Lib.AppendStr
import Derived.Laws.IdiomStrings
import Derived.Lib.ConvBytes
import Derived.Lib.SmallJoins
import Derived.IntWalk
import Derived.Deep.AppendLies
import Derived.Deep.RegionLaw
import Derived.Test.YtdpgkihecpjijaaDoorProg
import Derived.Test.YtdpgkihecpjijaaDoorMem
import Derived.Test.YtdpgkihecpjijaaDoorVv
import Derived.WalkKit
import Derived.Outline
import Derived.WalkLawsBesides
import Derived.Deep.QuietTactic
import Derived.BigQuiet
import Derived.Lib.Hide
import Derived.Handy
import Derived.Deep.RegionHeld3
import Derived.Deep.DrawnRows
import Derived.KernelRfl
import Derived.Sort.Walk0
import Derived.Great.Walk
import Derived.Test.YtdpgkihecpjijaaDoorOwn
namespace Go.Proofs.YtdpgkihecpjijaaDoor.T
open Go Go.RowKit Mem Own
set_option maxRecDepth 100000
set_option maxHeartbeats 1000000
set_option linter.unusedVariables false
set_option linter.unusedSimpArgs false

def B (l : List UInt8) : ByteArray := ⟨l.toArray⟩
theorem B_list (l : List UInt8) : (B l).data.toList = l := rfl
theorem B_size (l : List UInt8) : (B l).size = l.length := rfl
theorem B_self (s : ByteArray) : B s.data.toList = s := rfl
theorem B_inj {l m : List UInt8} (h : B l = B m) : l = m := by have := congrArg (fun s : ByteArray => s.data.toList) h; simpa [B] using this
theorem ext_list (s : ByteArray) (i j : Nat) : s.extract i j = B ((s.data.toList.drop i).take (j - i)) := by
  apply ByteArray.ext
  rw [ByteArray.data_extract]
  apply Array.ext'
  simp [B, List.extract_eq_take_drop]
theorem rdN_of (n : Nat) (x y : List UInt8) (h : x.length = n) : rdN n (B (x ++ y)) false = (B x, B y, false) := by
  subst h
  unfold rdN
  rw [if_neg (by rw [B_size]; simp)]
  rw [ext_list, ext_list, B_list, B_size]
  simp
theorem rdN_back {n : Nat} {s x s1 : ByteArray} {bad : Bool} (h : rdN n s bad = (x, s1, false)) : bad = false ∧ x.size = n ∧ s = B (x.data.toList ++ s1.data.toList) := by
  unfold rdN at h
  split at h
  · cases h
  · next hc =>
    cases bad
    · injection h with h1 h2
      injection h2 with h2 _
      rw [not_or] at hc
      refine ⟨rfl, ?_, ?_⟩
      · rw [← h1, ByteArray.size_extract]; omega
      · rw [← h1, ← h2, ext_list, ext_list, B_list, B_list]
        show B s.data.toList = _
        congr 1
        rw [List.take_of_length_le (i := s.size - n) (by simp)]
        simp
    · exact absurd (.inl rfl) hc
theorem num1 (c : UInt8) : num [c] = c.toNat := by simp [num]
theorem num2 (n : Nat) (h : n < 65536) : num (two16 n) = n := by simp [num, two16, UInt8.toNat_ofNat']; omega
theorem num4 (z : Int) : num (part4 z) = (z % 4294967296).toNat := by simp [num, part4, UInt8.toNat_ofNat']; omega
theorem sgn_of (z : Int) (h : -2147483648 ≤ z ∧ z ≤ 2147483647) : sgn (z % 4294967296).toNat = z := by unfold sgn wrap64 wrap32; omega
theorem rdNum1_of (c : UInt8) (y : List UInt8) : rdNum 1 (B (c :: y)) false = (c.toNat, B y, false) := by
  unfold rdNum; rw [show c :: y = [c] ++ y from rfl, rdN_of 1 [c] y rfl]; simp [B_list, num1]
theorem rdNum2_of (n : Nat) (y : List UInt8) (h : n < 65536) : rdNum 2 (B (two16 n ++ y)) false = (n, B y, false) := by
  unfold rdNum; rw [rdN_of 2 (two16 n) y rfl]; simp [B_list, num2 n h]
theorem rdNum4_of (z : Int) (y : List UInt8) : rdNum 4 (B (part4 z ++ y)) false = ((z % 4294967296).toNat, B y, false) := by
  unfold rdNum; rw [rdN_of 4 (part4 z) y rfl]; simp [B_list, num4]
theorem rdTxt_of (x : ByteArray) (y : List UInt8) (h : x.size < 65536) : rdTxt (B (txt x ++ y)) false = (x, B y, false) := by
  unfold rdTxt txt; rw [List.append_assoc, rdNum2_of x.size _ h]; dsimp only; rw [rdN_of x.size x.data.toList y (by simp)]; rfl
theorem rdCnt_of (n : Nat) (y : List UInt8) (h : n ≤ 256) : rdCnt (B (two16 n ++ y)) false = (n, B y, false) := by
  unfold rdCnt; rw [rdNum2_of n y (by omega), if_neg (by dsimp only; omega)]
theorem snoc_ind {α : Type} {P : List α → Prop} (h0 : P []) (h1 : ∀ l x, P l → P (l ++ [x])) (l : List α) : P l := by
  rw [← List.reverse_reverse l]
  induction l.reverse with
  | nil => exact h0
  | cons x l ih => rw [List.reverse_cons]; exact h1 _ _ ih
theorem rdIs_of (l : List ByteArray) : (∀ x ∈ l, x.size < 65536) → ∀ y, rdIs (B (itemsB l ++ y)) false l.length = (l, B y, false) := by
  refine snoc_ind (P := fun l => (∀ x ∈ l, x.size < 65536) → ∀ y, rdIs (B (itemsB l ++ y)) false l.length = (l, B y, false)) ?_ ?_ l
  · intro _ y; rfl
  · intro l x ih hx y
    have hi := ih (fun z hz => hx z (List.mem_append_left _ hz)) (txt x ++ y)
    rw [List.length_append, List.length_singleton, show itemsB (l ++ [x]) ++ y = itemsB l ++ (txt x ++ y) by simp [itemsB]]
    unfold rdIs
    rw [hi]
    dsimp only
    rw [rdTxt_of x y (hx x (by simp))]
theorem rdPs_of (l : List (ByteArray × ByteArray)) : (∀ x ∈ l, x.1.size < 65536 ∧ x.2.size < 65536) → ∀ y, rdPs (B (pairsB l ++ y)) false l.length = (l, B y, false) := by
  refine snoc_ind (P := fun l => (∀ x ∈ l, x.1.size < 65536 ∧ x.2.size < 65536) → ∀ y, rdPs (B (pairsB l ++ y)) false l.length = (l, B y, false)) ?_ ?_ l
  · intro _ y; rfl
  · intro l x ih hx y
    have hi := ih (fun z hz => hx z (List.mem_append_left _ hz)) (txt x.1 ++ (txt x.2 ++ y))
    rw [List.length_append, List.length_singleton, show pairsB (l ++ [x]) ++ y = pairsB l ++ (txt x.1 ++ (txt x.2 ++ y)) by simp [pairsB]]
    unfold rdPs
    rw [hi]
    dsimp only
    rw [rdTxt_of x.1 _ (hx x (by simp)).1]
    dsimp only
    rw [rdTxt_of x.2 y (hx x (by simp)).2]
theorem rdVal_of (a : Vl) (h : RightV a) (y : List UInt8) : rdVal (B (body a ++ y)) false = (a, B y, false) := by
  obtain ⟨k, t, ps, is, re, im⟩ := a
  obtain ⟨hb, h⟩ := h
  have eb := hb
  simp only [bareV, Vl.mk.injEq, true_and] at eb
  dsimp only at h eb
  rcases h with ⟨rfl, h1⟩ | ⟨rfl, h1, h2, h3⟩ | ⟨rfl, h1, h2⟩ | ⟨rfl, h1, h2, h3⟩ | ⟨rfl, h1⟩
  · simp at eb
    obtain ⟨rfl, rfl, rfl, rfl⟩ := eb
    unfold rdVal
    rw [show body ⟨1, t, [], [], 0, 0⟩ ++ y = 1 :: (txt t ++ y) from rfl, rdNum1_of]
    dsimp only
    rw [show (1 : UInt8).toNat = 1 from rfl, rdBody, if_pos rfl, rdTxt_of t y (by omega)]
    rfl
  · simp at eb
    obtain ⟨rfl, rfl, rfl, rfl⟩ := eb
    unfold rdVal
    rw [show body ⟨2, ⟨#[]⟩, ps, [], 0, 0⟩ ++ y = 2 :: ((two16 ps.length ++ pairsB ps) ++ y) from rfl, rdNum1_of]
    dsimp only
    rw [show (2 : UInt8).toNat = 2 from rfl, rdBody, if_neg (by decide), if_pos rfl, List.append_assoc, rdCnt_of _ _ h3.2]
    dsimp only
    rw [rdPs_of ps (fun x hx => by have := h1 x hx; omega) y]
    rfl
  · simp at eb
    obtain ⟨rfl, rfl, rfl, rfl⟩ := eb
    unfold rdVal
    rw [show body ⟨3, ⟨#[]⟩, [], is, 0, 0⟩ ++ y = 3 :: ((two16 is.length ++ itemsB is) ++ y) from rfl, rdNum1_of]
    dsimp only
    rw [show (3 : UInt8).toNat = 3 from rfl, rdBody, if_neg (by decide), if_neg (by decide), if_pos (by decide), List.append_assoc, rdCnt_of _ _ h2.2]
    dsimp only
    rw [rdIs_of is (fun x hx => by have := h1 x hx; omega) y]
    rfl
  · simp at eb
    obtain ⟨rfl, rfl, rfl, rfl⟩ := eb
    unfold rdVal
    rw [show body ⟨4, ⟨#[]⟩, [], is, 0, 0⟩ ++ y = 4 :: ((two16 is.length ++ itemsB is) ++ y) from rfl, rdNum1_of]
    dsimp only
    rw [show (4 : UInt8).toNat = 4 from rfl, rdBody, if_neg (by decide), if_neg (by decide), if_pos (by decide), List.append_assoc, rdCnt_of _ _ h3.2]
    dsimp only
    rw [rdIs_of is (fun x hx => by have := h2 x hx; omega) y]
    rfl
  · simp at eb
    obtain ⟨rfl, rfl, rfl⟩ := eb
    unfold rdVal
    rw [show body ⟨5, ⟨#[]⟩, [], [], re, im⟩ ++ y = 5 :: ((part4 re ++ part4 im) ++ y) from rfl, rdNum1_of]
    dsimp only
    rw [show (5 : UInt8).toNat = 5 from rfl, rdBody, if_neg (by decide), if_neg (by decide), if_neg (by decide), if_pos rfl, List.append_assoc, rdNum4_of]
    dsimp only
    rw [rdNum4_of]
    dsimp only
    rw [sgn_of re (by unfold ptOk at h1; omega), sgn_of im (by unfold ptOk at h1; omega)]
    rfl
theorem rdNum1_back {s s1 : ByteArray} {bad : Bool} {k : Nat} (h : rdNum 1 s bad = (k, s1, false)) : bad = false ∧ k < 256 ∧ s = B (UInt8.ofNat k :: s1.data.toList) := by
  generalize hr : rdN 1 s bad = r at *
  obtain ⟨x, t, b⟩ := r
  unfold rdNum at h
  rw [hr] at h
  simp only [Prod.mk.injEq] at h
  obtain ⟨rfl, rfl, rfl⟩ := h
  obtain ⟨h1, h2, h3⟩ := rdN_back hr
  have hl : x.data.toList.length = 1 := by simpa using h2
  obtain ⟨c, hc⟩ := List.length_eq_one_iff.1 hl
  rw [hc] at h3 ⊢
  rw [num1]
  exact ⟨h1, c.toNat_lt, by rw [h3]; simp⟩
theorem rdNum2_back {s s1 : ByteArray} {bad : Bool} {k : Nat} (h : rdNum 2 s bad = (k, s1, false)) : bad = false ∧ k < 65536 ∧ s = B (two16 k ++ s1.data.toList) := by
  generalize hr : rdN 2 s bad = r at *
  obtain ⟨x, t, b⟩ := r
  unfold rdNum at h
  rw [hr] at h
  simp only [Prod.mk.injEq] at h
  obtain ⟨rfl, rfl, rfl⟩ := h
  obtain ⟨h1, h2, h3⟩ := rdN_back hr
  have hl : x.data.toList.length = 2 := by simpa using h2
  rcases hx : x.data.toList with _ | ⟨c, _ | ⟨d, _ | ⟨e, l⟩⟩⟩ <;> rw [hx] at hl <;> simp at hl
  rw [hx] at h3
  have hc1 := c.toNat_lt; have hd1 := d.toNat_lt
  have e : num [c, d] = c.toNat * 256 + d.toNat := by simp [num]
  rw [e]
  refine ⟨h1, by omega, ?_⟩
  rw [h3]
  have hp : two16 (c.toNat * 256 + d.toNat) = [c, d] := by
    unfold two16
    simp only [List.cons.injEq, and_true]
    refine ⟨?_, ?_⟩ <;> (apply UInt8.toNat_inj.1; rw [UInt8.toNat_ofNat']; omega)
  rw [hp]
theorem sgn_mod (n : Nat) : ∃ q : Int, sgn n = 4294967296 * q + n := by
  unfold sgn wrap64 wrap32
  exact ⟨((((n : Int) + 2147483648) % 4294967296 - 2147483648 + 9223372036854775808) % 18446744073709551616 - 9223372036854775808 - n) / 4294967296, by omega⟩
theorem part4_sgn (c d p f : UInt8) : part4 (sgn (((c.toNat * 256 + d.toNat) * 256 + p.toNat) * 256 + f.toNat)) = [c, d, p, f] := by
  have hc1 := c.toNat_lt; have hd1 := d.toNat_lt; have he1 := p.toNat_lt; have hf1 := f.toNat_lt
  obtain ⟨q, hq⟩ := sgn_mod (((c.toNat * 256 + d.toNat) * 256 + p.toNat) * 256 + f.toNat)
  generalize sgn (((c.toNat * 256 + d.toNat) * 256 + p.toNat) * 256 + f.toNat) = z at *
  have e1 : (z / 16777216) % 256 = c.toNat := by omega
  have e2 : (z / 65536) % 256 = d.toNat := by omega
  have e3 : (z / 256) % 256 = p.toNat := by omega
  have e4 : z % 256 = f.toNat := by omega
  unfold part4
  rw [e1, e2, e3, e4]
  simp
theorem rdNum4_back {s s1 : ByteArray} {bad : Bool} {k : Nat} (h : rdNum 4 s bad = (k, s1, false)) : bad = false ∧ s = B (part4 (sgn k) ++ s1.data.toList) := by
  generalize hr : rdN 4 s bad = r at *
  obtain ⟨x, t, b⟩ := r
  unfold rdNum at h
  rw [hr] at h
  simp only [Prod.mk.injEq] at h
  obtain ⟨rfl, rfl, rfl⟩ := h
  obtain ⟨h1, h2, h3⟩ := rdN_back hr
  have hl : x.data.toList.length = 4 := by simpa using h2
  refine ⟨h1, ?_⟩
  rcases hx : x.data.toList with _ | ⟨c, _ | ⟨d, _ | ⟨p, _ | ⟨f, _ | ⟨g, l⟩⟩⟩⟩⟩ <;> rw [hx] at hl <;> simp at hl
  rw [hx] at h3
  rw [h3]
  have hc1 := c.toNat_lt; have hd1 := d.toNat_lt; have he1 := p.toNat_lt; have hf1 := f.toNat_lt
  have e : num [c, d, p, f] = ((c.toNat * 256 + d.toNat) * 256 + p.toNat) * 256 + f.toNat := by simp [num]
  rw [e, part4_sgn c d p f]
theorem rdTxt_back {s x s1 : ByteArray} {bad : Bool} (h : rdTxt s bad = (x, s1, false)) : bad = false ∧ s = B (txt x ++ s1.data.toList) := by
  unfold rdTxt at h
  generalize hr : rdNum 2 s bad = r at h
  obtain ⟨n, t, b⟩ := r
  obtain ⟨h1, h2, h3⟩ := rdN_back h
  dsimp only at h1 h2 h3
  subst h1
  obtain ⟨g1, g2, g3⟩ := rdNum2_back hr
  refine ⟨g1, ?_⟩
  rw [g3, h3, B_list, txt, h2, List.append_assoc]
theorem rdCnt_back {s s1 : ByteArray} {bad : Bool} {k : Nat} (h : rdCnt s bad = (k, s1, false)) : bad = false ∧ s = B (two16 k ++ s1.data.toList) := by
  unfold rdCnt at h
  split at h
  · simp at h
  · have := rdNum2_back h; exact ⟨this.1, this.2.2⟩
theorem rdIs_back : ∀ (n : Nat) {s s1 : ByteArray} {bad : Bool} {l : List ByteArray}, rdIs s bad n = (l, s1, false) → bad = false ∧ l.length = n ∧ s = B (itemsB l ++ s1.data.toList)
  | 0, s, s1, bad, l, h => by
    unfold rdIs at h
    simp only [Prod.mk.injEq] at h
    obtain ⟨rfl, rfl, rfl⟩ := h
    exact ⟨rfl, rfl, by simp [itemsB, B_self]⟩
  | n + 1, s, s1, bad, l, h => by
    unfold rdIs at h
    generalize hr : rdIs s bad n = r at h
    obtain ⟨l0, t, b⟩ := r
    dsimp only at h
    generalize hx : rdTxt t b = r at h
    obtain ⟨x, t1, b1⟩ := r
    simp only [Prod.mk.injEq] at h
    obtain ⟨rfl, rfl, rfl⟩ := h
    obtain ⟨rfl, g2⟩ := rdTxt_back hx
    obtain ⟨k1, k2, k3⟩ := rdIs_back n hr
    refine ⟨k1, by simp [k2], ?_⟩
    rw [k3, g2, B_list]
    simp [itemsB]
theorem rdPs_back : ∀ (n : Nat) {s s1 : ByteArray} {bad : Bool} {l : List (ByteArray × ByteArray)}, rdPs s bad n = (l, s1, false) → bad = false ∧ l.length = n ∧ s = B (pairsB l ++ s1.data.toList)
  | 0, s, s1, bad, l, h => by
    unfold rdPs at h
    simp only [Prod.mk.injEq] at h
    obtain ⟨rfl, rfl, rfl⟩ := h
    exact ⟨rfl, rfl, by simp [pairsB, B_self]⟩
  | n + 1, s, s1, bad, l, h => by
    unfold rdPs at h
    generalize hr : rdPs s bad n = r at h
    obtain ⟨l0, t, b⟩ := r
    dsimp only at h
    generalize hx : rdTxt t b = r at h
    obtain ⟨x, t1, b1⟩ := r
    dsimp only at h
    generalize hy : rdTxt t1 b1 = r at h
    obtain ⟨y, t2, b2⟩ := r
    simp only [Prod.mk.injEq] at h
    obtain ⟨rfl, rfl, rfl⟩ := h
    obtain ⟨rfl, f2⟩ := rdTxt_back hy
    obtain ⟨rfl, g2⟩ := rdTxt_back hx
    obtain ⟨k1, k2, k3⟩ := rdPs_back n hr
    refine ⟨k1, by simp [k2], ?_⟩
    rw [k3, g2, f2, B_list, B_list]
    simp [pairsB]
theorem rdVal_back {s s1 : ByteArray} {a : Vl} {bad : Bool} (h : rdVal s bad = (a, s1, false)) : s = B (body a ++ s1.data.toList) := by
  unfold rdVal at h
  generalize hr : rdNum 1 s bad = r at h
  obtain ⟨k, t, b⟩ := r
  dsimp only at h
  unfold rdBody at h
  have main : ∀ l, t = B (l ++ s1.data.toList) → b = false → body a = UInt8.ofNat k :: l → s = B (body a ++ s1.data.toList) := by
    intro l ht hb hl
    subst hb
    obtain ⟨_, _, h3⟩ := rdNum1_back hr
    rw [h3, ht, B_list, hl]
    rfl
  have hb : ∀ a, a.kind = (k : Int) → ∃ l, body a = UInt8.ofNat k :: l ∧ l = (if a.kind = 1 then txt a.text else if a.kind = 2 then two16 a.pairs.length ++ pairsB a.pairs else if a.kind = 3 ∨ a.kind = 4 then two16 a.items.length ++ itemsB a.items else if a.kind = 5 then part4 a.re ++ part4 a.im else []) := by
    intro a ha
    refine ⟨_, ?_, rfl⟩
    unfold body
    rw [ha]
    congr 1
    apply UInt8.toNat_inj.1; rw [UInt8.toNat_ofNat', UInt8.toNat_ofNat']; omega
  split at h
  · next hk =>
    subst hk
    simp only [Prod.mk.injEq] at h
    obtain ⟨l, e, el⟩ := hb a (by rw [← h.1])
    obtain ⟨rfl, hx⟩ := h
    obtain ⟨g1, g2⟩ := rdTxt_back (x := (rdTxt t b).1) (Prod.ext rfl hx)
    exact main l (by rw [g2, el]; rfl) g1 e
  split at h
  · next hk =>
    subst hk
    simp only [Prod.mk.injEq] at h
    obtain ⟨l, e, el⟩ := hb a (by rw [← h.1])
    obtain ⟨rfl, hx⟩ := h
    generalize hc : rdCnt t b = r at hx e el main ⊢
    obtain ⟨n, t1, b1⟩ := r
    dsimp only at hx
    obtain ⟨rfl, g2, g3⟩ := rdPs_back n (l := (rdPs t1 b1 n).1) (Prod.ext rfl hx)
    obtain ⟨rfl, f2⟩ := rdCnt_back hc
    refine main l ?_ rfl e
    rw [f2, g3, B_list, el]
    dsimp only
    rw [if_neg (by decide), if_pos (by decide), g2, List.append_assoc]
  split at h
  · next hk =>
    simp only [Prod.mk.injEq] at h
    obtain ⟨l, e, el⟩ := hb a (by rw [← h.1])
    obtain ⟨rfl, hx⟩ := h
    generalize hc : rdCnt t b = r at hx e el main ⊢
    obtain ⟨n, t1, b1⟩ := r
    dsimp only at hx
    obtain ⟨rfl, g2, g3⟩ := rdIs_back n (l := (rdIs t1 b1 n).1) (Prod.ext rfl hx)
    obtain ⟨rfl, f2⟩ := rdCnt_back hc
    refine main l ?_ rfl e
    rw [f2, g3, B_list, el]
    dsimp only
    rw [if_neg (by omega), if_neg (by omega), if_pos (by omega), g2, List.append_assoc]
  split at h
  · next hk =>
    subst hk
    simp only [Prod.mk.injEq] at h
    obtain ⟨l, e, el⟩ := hb a (by rw [← h.1])
    obtain ⟨rfl, hx⟩ := h
    generalize hc : rdNum 4 t b = r at hx e el main ⊢
    obtain ⟨n, t1, b1⟩ := r
    dsimp only at hx
    generalize hd : rdNum 4 t1 b1 = r at hx e el main ⊢
    obtain ⟨m, t2, b2⟩ := r
    simp only [Prod.mk.injEq] at hx
    obtain ⟨rfl, rfl⟩ := hx
    obtain ⟨rfl, g3⟩ := rdNum4_back hd
    obtain ⟨rfl, f2⟩ := rdNum4_back hc
    refine main l ?_ rfl e
    rw [f2, g3, B_list, el]
    dsimp only
    rw [if_neg (by decide), if_neg (by decide), if_neg (by decide), if_pos (by decide), List.append_assoc]
  · simp only [Prod.mk.injEq] at h
    obtain ⟨l, e, el⟩ := hb a (by rw [← h.1])
    obtain ⟨rfl, rfl, rfl⟩ := h
    refine main l ?_ rfl e
    dsimp only at el
    rw [if_neg (by omega), if_neg (by omega), if_neg (by omega), if_neg (by omega)] at el
    rw [el]
    rfl
/-- What was dumped loads again. -/
theorem load_dump (a : Vl) (h : RightV a) : loadV (B (dumpB a)) = (a, 0) := by
  have hs : (B (dumpB a)).size = (body a).length + 2 := by rw [B_size]; simp [dumpB, sumB, two16]
  have hb : 1 ≤ (body a).length := by unfold body; simp
  have hh : headB (B (dumpB a)) = B (body a) := by
    unfold headB
    rw [ext_list, hs, B_list]
    simp [dumpB]
  have hk : ((B (dumpB a)).extract ((B (dumpB a)).size - 2) (B (dumpB a)).size).data.toList = sumB (body a) := by
    rw [ext_list, hs, B_list, B_list]
    simp [dumpB, sumB, two16]
  have hr : rdVal (B (body a)) false = (a, B [], false) := by have := rdVal_of a h []; rwa [List.append_nil] at this
  unfold loadV
  rw [if_neg (by omega), if_neg (by unfold sumOk; rw [hh, hk, B_list]; simp), hh, hr, if_pos ⟨rfl, rfl, h⟩]
/-- What loads was dumped so. -/
theorem dump_load {s : ByteArray} {a : Vl} (h : loadV s = (a, 0)) : RightV a ∧ s = B (dumpB a) := by
  unfold loadV at h
  split at h
  · simp at h
  · split at h
    · simp at h
    · next h3 hso =>
      split at h
      · next hg =>
        simp only [Prod.mk.injEq, and_true] at h
        subst h
        refine ⟨hg.2.2, ?_⟩
        generalize hr : rdVal (headB s) false = r at hg ⊢
        obtain ⟨a, s1, b1⟩ := r
        obtain ⟨rfl, h0, hra⟩ := hg
        dsimp only at h0 hra ⊢
        have hb := rdVal_back hr
        have e0 : s1.data.toList = [] := List.eq_nil_of_length_eq_zero (by simpa using h0)
        rw [e0, List.append_nil] at hb
        have hso := Classical.not_not.1 hso
        unfold sumOk at hso
        rw [hb, B_list] at hso
        rw [dumpB, hso, ← B_list (body a), ← hb]
        unfold headB
        rw [ext_list, ext_list, B_list, B_list]
        show B s.data.toList = _
        congr 1
        have : s.size = s.data.toList.length := by simp
        rw [List.take_of_length_le (i := s.size - (s.size - 2)) (by simp)]
        simp
      · simp at h
end Go.Proofs.YtdpgkihecpjijaaDoor.T
