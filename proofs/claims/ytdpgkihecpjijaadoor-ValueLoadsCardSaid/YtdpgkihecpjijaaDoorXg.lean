import Derived.Deep.DeepCutAuto
import Derived.Laws.OwnMore
import Derived.OwnWalk
import Derived.Lib.AppendStr
import Derived.Laws.IdiomStrings
import Derived.Lib.ConvBytes
import Derived.Lib.SmallJoins
import Derived.IntWalk
import Derived.Deep.AppendLies
import Derived.Deep.RegionLaw
import Derived.Test.YtdpgkihecpjijaaDoorProg
import Derived.Test.YtdpgkihecpjijaaDoorMem
import Derived.Test.YtdpgkihecpjijaaDoorVw
import Derived.Test.YtdpgkihecpjijaaDoorVx
import Derived.Test.YtdpgkihecpjijaaDoorVu
import Derived.Test.YtdpgkihecpjijaaDoorWf
import Derived.Test.YtdpgkihecpjijaaDoorWw
import Derived.Test.YtdpgkihecpjijaaDoorWr
import Derived.Test.YtdpgkihecpjijaaDoorXa
import Derived.WalkKit
import Derived.Outline
import Derived.WalkLawsBesides
import Derived.Deep.QuietTactic
import Derived.BigQuiet
import Derived.Lib.Hide
import Derived.Handy
import Derived.Deep.RegionHeld3
import Derived.Deep.DrawnRows
import Derived.KernelRfl
import Derived.Great.Walk
import Derived.Test.YtdpgkihecpjijaaDoorOwn
namespace Go.Proofs.YtdpgkihecpjijaaDoor.T
open Go Go.RowKit Mem Own
set_option maxRecDepth 100000
set_option maxHeartbeats 1000000
set_option linter.unusedVariables false
set_option linter.unusedSimpArgs false

/-- ref10.read -/
theorem rread_is (s : ByteArray) (w : World) (hs : s.size ≤ maxLen) (h0 : 1 ≤ s.size) : Calls Tryd.prog 34 #[.string s] w (ReadOut (readV s) w) := by
  unfold readV
  generalize hk : ((byteAt s 0 : Nat) : Int) = k
  by_cases hn : atF s 1 < 0
  · exact rread_neg s k w hs h0 hk hn
  by_cases k1 : k = 1
  · cases hr : txF s 1 1 with
    | none => exact rread_1none s k w hs h0 hk k1 hr hn
    | some p =>
      obtain ⟨l, e⟩ := p
      have hl := (txF_len hr).1
      match l, hl with
      | [x], _ => exact rread_1some s k w hs h0 hk k1 x e hr hn
  by_cases k2 : k = 2
  · by_cases hb : 256 < atF s 1
    · exact rread_2big s k w hs h0 hk k2 hb hn
    · exact rread_2ps s k w hs h0 hk k2 hb _ rfl hn
  by_cases k3 : k = 3
  · by_cases hb : 256 < atF s 1
    · exact rread_3big s k w hs h0 hk k3 hb hn
    · cases hr : txF s 3 (atF s 1).toNat with
      | none => exact rread_3none s k w hs h0 hk k3 hb hr hn
      | some p => exact rread_3some s k w hs h0 hk k3 hb p.1 p.2 hr hn
  by_cases k4 : k = 4
  · by_cases hb : 256 < atF s 1
    · exact rread_4big s k w hs h0 hk k4 hb hn
    · cases hr : txF s 3 (atF s 1).toNat with
      | none => exact rread_4none s k w hs h0 hk k4 hb hr hn
      | some p => exact rread_4some s k w hs h0 hk k4 hb p.1 p.2 hr hn
  by_cases k5 : k = 5
  · by_cases h9 : s.size = 9
    · exact rread_5yes s k w hs h0 hk k5 h9 hn
    · exact rread_5no s k w hs h0 hk k5 h9 hn
  exact rread_o s k w hs h0 hk ⟨k1, k2, k3, k4, k5⟩ hn

theorem byteAt_B (l : List UInt8) (i : Nat) : byteAt (B l) i = (l.getD i 0).toNat := rfl
theorem atF_B (x y : List UInt8) (n : Nat) (h : n < 65536) : atF (B (x ++ two16 n ++ y)) x.length = n := by
  unfold atF
  rw [if_neg (by rw [B_size]; simp [two16] <;> omega), byteAt_B, byteAt_B]
  simp [two16, List.getD, UInt8.toNat_ofNat']
  omega
theorem txF_of : ∀ (l : List ByteArray) (pre rest : List UInt8), (∀ x ∈ l, x.size < 65536) → txF (B (pre ++ itemsB l ++ rest)) pre.length l.length = some (l, pre.length + (itemsB l).length)
  | [], pre, rest, _ => by simp [txF, itemsB]
  | x :: l, pre, rest, h => by
    have hx := h x (List.mem_cons_self ..)
    have ih := txF_of l (pre ++ txt x) rest (fun y hy => h y (List.mem_cons_of_mem _ hy))
    have e : pre ++ itemsB (x :: l) ++ rest = pre ++ two16 x.size ++ (x.data.toList ++ itemsB l ++ rest) := by simp [itemsB, txt]
    have e2 : pre ++ itemsB (x :: l) ++ rest = pre ++ txt x ++ itemsB l ++ rest := by simp [itemsB]
    have ha : ((x.size : Nat) : Int) = atF (B (pre ++ itemsB (x :: l) ++ rest)) pre.length := by rw [e, atF_B _ _ _ hx]
    have hle : pre.length + 2 + x.size ≤ (B (pre ++ itemsB (x :: l) ++ rest)).size := by rw [B_size, e]; simp [two16] <;> omega
    rw [List.length_cons, txF_step ha hle]
    have hp : pre.length + 2 + x.size = (pre ++ txt x).length := by simp [txt, two16] <;> omega
    have hex : (B (pre ++ itemsB (x :: l) ++ rest)).extract (pre.length + 2) (pre.length + 2 + x.size) = x := by
      rw [ext_list, B_list, e]
      have h1 : pre.length + 2 = (pre ++ two16 x.size).length := by simp [two16]
      rw [h1, List.drop_left, show (pre ++ two16 x.size).length + x.size - (pre ++ two16 x.size).length = x.data.toList.length by simp, List.append_assoc, List.take_left]
      exact B_self x
    rw [hex, hp, e2, ih]
    simp [itemsB] <;> omega
theorem pairs_flat (ps : List (ByteArray × ByteArray)) : pairsB ps = itemsB (ps.flatMap fun p => [p.1, p.2]) := by
  induction ps with
  | nil => rfl
  | cons p ps ih => simp [pairsB, itemsB] at ih ⊢; rw [ih]
theorem flat_len (ps : List (ByteArray × ByteArray)) : (ps.flatMap fun p => [p.1, p.2]).length = 2 * ps.length := by
  induction ps with
  | nil => rfl
  | cons p ps ih => simp at ih ⊢; omega
theorem pairUp_flat : ∀ ps : List (ByteArray × ByteArray), pairUp (ps.flatMap fun p => [p.1, p.2]) = ps
  | [] => rfl
  | (x, y) :: ps => by
    have := pairUp_flat ps
    simp only [List.flatMap_cons, List.cons_append, List.nil_append, pairUp]
    rw [this]
theorem pairUp_len : ∀ l : List ByteArray, (pairUp l).length ≤ l.length
  | [] => Nat.le_refl _
  | [x] => by simp [pairUp]
  | x :: y :: l => by have := pairUp_len l; simp [pairUp]; omega
theorem read_small (s : ByteArray) : smallV (readV s) := by
  unfold readV readB
  generalize ((byteAt s 0 : Nat) : Int) = k
  have h1 := txL_len s 3 (2 * (atF s 1).toNat)
  have h2 := txL_len s 3 (atF s 1).toNat
  have h3 := pairUp_len (txL (txF s 3 (2 * (atF s 1).toNat)))
  have h4 := (atF_le s 1).2
  unfold smallV
  repeat' split
  all_goals (constructor <;> first | (simp [zeroV]; done) | (dsimp only; omega) | (dsimp only [List.length_nil]; omega))
theorem sg_of (z : Int) (h1 : -1048576 ≤ z) (h2 : z ≤ 1048576) (s : ByteArray) (i : Nat) (pre rest : List UInt8) (hs : s = B (pre ++ part4 z ++ rest)) (hi : i = pre.length) : sgF s i = z := by
  subst hi
  have e1 : pre ++ part4 z ++ rest = pre ++ two16 ((z % 4294967296).toNat / 65536) ++ (two16 ((z % 4294967296).toNat % 65536) ++ rest) := by
    have : part4 z = two16 ((z % 4294967296).toNat / 65536) ++ two16 ((z % 4294967296).toNat % 65536) := by
      simp only [part4, two16, List.cons_append, List.nil_append]
      have a1 : UInt8.ofNat (z / 16777216 % 256).toNat = UInt8.ofNat ((z % 4294967296).toNat / 65536 / 256) := by congr 1; omega
      have a2 : UInt8.ofNat (z / 65536 % 256).toNat = UInt8.ofNat ((z % 4294967296).toNat / 65536) := by
        apply UInt8.toNat_inj.1; simp [UInt8.toNat_ofNat']; omega
      have a3 : UInt8.ofNat (z / 256 % 256).toNat = UInt8.ofNat ((z % 4294967296).toNat % 65536 / 256) := by congr 1; omega
      have a4 : UInt8.ofNat (z % 256).toNat = UInt8.ofNat ((z % 4294967296).toNat % 65536) := by
        apply UInt8.toNat_inj.1; simp [UInt8.toNat_ofNat']; omega
      rw [a1, a2, a3, a4]
    rw [this]; simp
  have e2 : pre ++ part4 z ++ rest = (pre ++ two16 ((z % 4294967296).toNat / 65536)) ++ two16 ((z % 4294967296).toNat % 65536) ++ rest := by rw [e1]; simp
  have b1 : atF s pre.length = ((z % 4294967296).toNat / 65536 : Nat) := by rw [hs, e1, atF_B _ _ _ (by omega)]
  have b2 : atF s (pre.length + 2) = ((z % 4294967296).toNat % 65536 : Nat) := by
    have h := atF_B (pre ++ two16 ((z % 4294967296).toNat / 65536)) rest ((z % 4294967296).toNat % 65536) (by omega)
    rw [← e2, ← hs] at h
    rw [← h]; congr 1
    simp [two16]
  unfold sgF
  rw [b1, b2]
  split <;> omega
/-- What is read of the bytes of a right value is that value. -/
theorem read_body (a : Vl) (h : RightV a) : readV (B (body a)) = a := by
  have hb := h.1
  unfold readV
  rcases h.2 with ⟨hk, hz⟩ | ⟨hk, hp, hq, hc⟩ | ⟨hk, hp, hc⟩ | ⟨hk, _, hp, hc⟩ | ⟨hk, hp⟩
  · obtain ⟨k, t, ps, is, re, im⟩ := a
    dsimp only at hk hz
    subst hk
    have e : body ⟨1, t, ps, is, re, im⟩ = [1] ++ itemsB [t] ++ [] := by simp [body, itemsB]
    have e' : body ⟨1, t, ps, is, re, im⟩ = [1] ++ two16 t.size ++ t.data.toList := by simp [body, txt]
    have h0 : byteAt (B (body ⟨1, t, ps, is, re, im⟩)) 0 = 1 := by rw [e]; rfl
    have h1 : atF (B (body ⟨1, t, ps, is, re, im⟩)) 1 = t.size := by rw [e']; exact atF_B [1] _ _ (by omega)
    have h2 : txF (B (body ⟨1, t, ps, is, re, im⟩)) 1 1 = some ([t], 1 + (itemsB [t]).length) := by rw [e]; exact txF_of [t] [1] [] (by simp; omega)
    rw [h0]
    show readB 1 _ = _
    unfold readB
    rw [if_neg (by rw [h1]; omega), if_pos rfl, h2]
    rw [hb]; simp [bareV, txL]
  · obtain ⟨k, t, ps, is, re, im⟩ := a
    dsimp only at hk hp hc
    subst hk
    have e : body ⟨2, t, ps, is, re, im⟩ = ([2] ++ two16 ps.length) ++ itemsB (ps.flatMap fun p => [p.1, p.2]) ++ [] := by rw [← pairs_flat]; simp [body]
    have e' : body ⟨2, t, ps, is, re, im⟩ = [2] ++ two16 ps.length ++ pairsB ps := by simp [body]
    have h0 : byteAt (B (body ⟨2, t, ps, is, re, im⟩)) 0 = 2 := by rw [e']; rfl
    have h1 : atF (B (body ⟨2, t, ps, is, re, im⟩)) 1 = ps.length := by rw [e']; exact atF_B [2] _ _ (by have := hc.2; omega)
    have h2 : txF (B (body ⟨2, t, ps, is, re, im⟩)) 3 (2 * ps.length) = some (ps.flatMap fun p => [p.1, p.2], ([2] ++ two16 ps.length).length + (itemsB (ps.flatMap fun p => [p.1, p.2])).length) := by
      rw [e, ← flat_len]
      exact txF_of _ ([2] ++ two16 ps.length) [] (by
        intro x hx
        obtain ⟨p, hpm, hx⟩ := List.mem_flatMap.1 hx
        have := hp p hpm
        simp at hx
        rcases hx with rfl | rfl <;> omega)
    rw [h0]
    show readB 2 _ = _
    unfold readB
    rw [if_neg (by rw [h1]; omega), if_neg (by decide), if_pos rfl, if_neg (by rw [h1]; have := hc.2; omega), h1, Int.toNat_natCast, h2]
    rw [hb]; simp [bareV, txL, pairUp_flat]
  · obtain ⟨k, t, ps, is, re, im⟩ := a
    dsimp only at hk hp hc
    subst hk
    have e : body ⟨3, t, ps, is, re, im⟩ = ([3] ++ two16 is.length) ++ itemsB is ++ [] := by simp [body]
    have e' : body ⟨3, t, ps, is, re, im⟩ = [3] ++ two16 is.length ++ itemsB is := by simp [body]
    have h0 : byteAt (B (body ⟨3, t, ps, is, re, im⟩)) 0 = 3 := by rw [e']; rfl
    have h1 : atF (B (body ⟨3, t, ps, is, re, im⟩)) 1 = is.length := by rw [e']; exact atF_B [3] _ _ (by have := hc.2; omega)
    have h2 : txF (B (body ⟨3, t, ps, is, re, im⟩)) 3 is.length = some (is, ([3] ++ two16 is.length).length + (itemsB is).length) := by
      rw [e]
      exact txF_of _ ([3] ++ two16 is.length) [] (fun x hx => by have := hp x hx; omega)
    rw [h0]
    show readB 3 _ = _
    unfold readB
    rw [if_neg (by rw [h1]; omega), if_neg (by decide), if_neg (by decide), if_pos (by decide), if_neg (by rw [h1]; have := hc.2; omega), h1, Int.toNat_natCast, h2]
    rw [hb]; simp [bareV, txL]
  · obtain ⟨k, t, ps, is, re, im⟩ := a
    dsimp only at hk hp hc
    subst hk
    have e : body ⟨4, t, ps, is, re, im⟩ = ([4] ++ two16 is.length) ++ itemsB is ++ [] := by simp [body]
    have e' : body ⟨4, t, ps, is, re, im⟩ = [4] ++ two16 is.length ++ itemsB is := by simp [body]
    have h0 : byteAt (B (body ⟨4, t, ps, is, re, im⟩)) 0 = 4 := by rw [e']; rfl
    have h1 : atF (B (body ⟨4, t, ps, is, re, im⟩)) 1 = is.length := by rw [e']; exact atF_B [4] _ _ (by have := hc.2; omega)
    have h2 : txF (B (body ⟨4, t, ps, is, re, im⟩)) 3 is.length = some (is, ([4] ++ two16 is.length).length + (itemsB is).length) := by
      rw [e]
      exact txF_of _ ([4] ++ two16 is.length) [] (fun x hx => by have := hp x hx; omega)
    rw [h0]
    show readB 4 _ = _
    unfold readB
    rw [if_neg (by rw [h1]; omega), if_neg (by decide), if_neg (by decide), if_pos (by decide), if_neg (by rw [h1]; have := hc.2; omega), h1, Int.toNat_natCast, h2]
    rw [hb]; simp [bareV, txL]
  · obtain ⟨k, t, ps, is, re, im⟩ := a
    dsimp only at hk hp
    subst hk
    obtain ⟨⟨p1, p2⟩, p3, p4⟩ := hp
    have e : body ⟨5, t, ps, is, re, im⟩ = [5] ++ part4 re ++ part4 im := by simp [body]
    have e' : body ⟨5, t, ps, is, re, im⟩ = ([5] ++ part4 re) ++ part4 im ++ [] := by simp [body]
    have h0 : byteAt (B (body ⟨5, t, ps, is, re, im⟩)) 0 = 5 := by rw [e]; rfl
    have h9 : (B (body ⟨5, t, ps, is, re, im⟩)).size = 9 := by rw [e]; rfl
    have h1 : ¬ atF (B (body ⟨5, t, ps, is, re, im⟩)) 1 < 0 := by unfold atF; rw [if_neg (by rw [h9]; omega)]; omega
    have g1 := sg_of re p1 p2 _ 1 [5] (part4 im) (congrArg B e) rfl
    have g2 := sg_of im p3 p4 _ 5 ([5] ++ part4 re) [] (congrArg B e') rfl
    rw [h0]
    show readB 5 _ = _
    unfold readB
    rw [if_neg h1, if_neg (by decide), if_neg (by decide), if_neg (by decide), if_pos rfl, if_pos h9, g1, g2]
    rw [hb]; simp [bareV]
end Go.Proofs.YtdpgkihecpjijaaDoor.T
