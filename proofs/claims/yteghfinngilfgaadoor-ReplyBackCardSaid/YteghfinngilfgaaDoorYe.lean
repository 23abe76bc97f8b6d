import Derived.Deep.DeepCutAuto
import Derived.Laws.OwnMore
import Derived.OwnWalk
import Derived.Lib.AppendStr
import Derived.Lib.SliceRun
import Derived.Lib.SmallJoins
import Derived.IntWalk
import Derived.Lib.ItoaLen
import Derived.Deep.RegionLaw
import Derived.Deep.AppendLies
import Derived.Test.YteghfinngilfgaaDoorProg
import Derived.Test.YteghfinngilfgaaDoorMem
import Derived.Test.YteghfinngilfgaaDoorYd
import Derived.WalkKit
import Derived.Outline
import Derived.WalkLawsBesides
import Derived.Deep.QuietTactic
import Derived.BigQuiet
import Derived.Lib.Hide
import Derived.Handy
import Derived.Deep.RegionHeld3
import Derived.Deep.DrawnRows
import Derived.KernelRfl
import Derived.Great.Walk
import Derived.Test.YteghfinngilfgaaDoorOwn
namespace Go.Proofs.YteghfinngilfgaaDoor.T
open Go Go.RowKit Go.Sort Mem Own
set_option maxRecDepth 100000
set_option maxHeartbeats 1000000
set_option linter.unusedVariables false
set_option linter.unusedSimpArgs false

def bcs (l : List UInt8) : List Value := l.map fun b => Value.int .u8 b.toNat
theorem bcs_len (l : List UInt8) : (bcs l).length = l.length := by simp [bcs]
theorem bcs_app (l l' : List UInt8) : bcs (l ++ l') = bcs l ++ bcs l' := by simp [bcs]
theorem bcs_str (s : ByteArray) : Lib.strCells s = bcs s.toList := by rw [ByteArray.toList_eq]; rfl
theorem toList_len (s : ByteArray) : s.toList.length = s.size := by rw [ByteArray.toList_eq]; simp
def crlf : List UInt8 := [13, 10]
/-- Has a reply nothing that its kind does not use? -/
def bareB (x : T) : Bool := ((decide (x.k = 1) || decide (x.k = 2) || decide (x.k = 4)) || x.t.toList.isEmpty) && (decide (x.k = 3) || decide (x.z = 0)) && (decide (x.k = 6) || decide (x.l.length = 0))
/-- Is a text one of a line? -/
def plainB (t : ByteArray) : Bool := (t.toList.all fun b => !(b == 13) && !(b == 10)) && decide (t.size ≤ 509)
mutual
/-- The writing of a reply; none: it has none. -/
def enc (d : Nat) : T → Option (List UInt8)
  | .mk k z t l =>
    if bareB (.mk k z t l) = false then none
    else if k = 1 then (if plainB t = true then some (43 :: (t.toList ++ crlf)) else none)
    else if k = 2 then (if plainB t = true then some (45 :: (t.toList ++ crlf)) else none)
    else if k = 3 then some (58 :: (Lib.itoa z ++ crlf))
    else if k = 4 then (if t.size ≤ 65536 then some (36 :: (Lib.itoa t.size ++ (crlf ++ (t.toList ++ crlf)))) else none)
    else if k = 5 then some [36, 45, 49, 13, 10]
    else if k = 6 then (if l.length ≤ 1024 ∧ d < 4 then (encs (d + 1) l).map (fun r => 42 :: (Lib.itoa l.length ++ (crlf ++ r))) else none)
    else none
def encs (d : Nat) : List T → Option (List UInt8)
  | [] => some []
  | x :: l => (enc d x).bind fun a => (encs d l).map fun b => a ++ b
end
theorem enc_bare {d : Nat} {x : T} (h : bareB x = false) : enc d x = none := by obtain ⟨k, z, t, l⟩ := x; simp only [enc, h, if_true]
theorem enc_1 {d : Nat} {x : T} (h : bareB x = true) (hk : x.k = 1) : enc d x = if plainB x.t = true then some (43 :: (x.t.toList ++ crlf)) else none := by
  obtain ⟨k, z, t, l⟩ := x; simp only [T.k] at hk; subst hk; simp [enc, h, T.t]; rfl
theorem enc_2 {d : Nat} {x : T} (h : bareB x = true) (hk : x.k = 2) : enc d x = if plainB x.t = true then some (45 :: (x.t.toList ++ crlf)) else none := by
  obtain ⟨k, z, t, l⟩ := x; simp only [T.k] at hk; subst hk; simp [enc, h, T.t]; rfl
theorem enc_3 {d : Nat} {x : T} (h : bareB x = true) (hk : x.k = 3) : enc d x = some (58 :: (Lib.itoa x.z ++ crlf)) := by
  obtain ⟨k, z, t, l⟩ := x; simp only [T.k] at hk; subst hk; simp [enc, h, T.z]
theorem enc_4 {d : Nat} {x : T} (h : bareB x = true) (hk : x.k = 4) : enc d x = if x.t.size ≤ 65536 then some (36 :: (Lib.itoa x.t.size ++ (crlf ++ (x.t.toList ++ crlf)))) else none := by
  obtain ⟨k, z, t, l⟩ := x; simp only [T.k] at hk; subst hk; simp [enc, h, T.t]; rfl
theorem enc_5 {d : Nat} {x : T} (h : bareB x = true) (hk : x.k = 5) : enc d x = some [36, 45, 49, 13, 10] := by
  obtain ⟨k, z, t, l⟩ := x; simp only [T.k] at hk; subst hk; simp [enc, h]
theorem enc_6 {d : Nat} {x : T} (h : bareB x = true) (hk : x.k = 6) : enc d x = if x.l.length ≤ 1024 ∧ d < 4 then (encs (d + 1) x.l).map (fun r => 42 :: (Lib.itoa x.l.length ++ (crlf ++ r))) else none := by
  obtain ⟨k, z, t, l⟩ := x; simp only [T.k] at hk; subst hk; simp [enc, h, T.l]; rfl
theorem enc_no {d : Nat} {x : T} (h1 : ¬ x.k = 1) (h2 : ¬ x.k = 2) (h3 : ¬ x.k = 3) (h4 : ¬ x.k = 4) (h5 : ¬ x.k = 5) (h6 : ¬ x.k = 6) : enc d x = none := by
  obtain ⟨k, z, t, l⟩ := x; simp only [T.k] at *; simp [enc, h1, h2, h3, h4, h5, h6]
theorem encs_take {d : Nat} : ∀ {l : List T} {i : Nat} {r a : List UInt8} (hi : i < l.length), encs d (l.take i) = some r → enc d l[i] = some a → encs d (l.take (i + 1)) = some (r ++ a)
  | x :: l, 0, r, a, hi, h, h1 => by
    simp [encs] at h ⊢; subst h; simp at h1; simp [h1]
  | x :: l, i + 1, r, a, hi, h, h1 => by
    simp only [List.take_succ_cons, encs] at h ⊢
    obtain ⟨a0, h2, h3⟩ := Option.bind_eq_some_iff.1 h
    obtain ⟨b0, h4, rfl⟩ := Option.map_eq_some_iff.1 h3
    rw [h2, Option.bind_some, encs_take (by simpa using hi) h4 (by simpa using h1)]
    simp
theorem encs_none {d : Nat} : ∀ {l : List T} {i : Nat} (hi : i < l.length), enc d l[i] = none → encs d l = none
  | x :: l, 0, hi, h => by simp at h; simp [encs, h]
  | x :: l, i + 1, hi, h => by
    simp only [encs]
    rw [encs_none (l := l) (i := i) (by simpa using hi) (by simpa using h)]
    cases enc d x <;> simp
mutual
/-- No more bytes than that are written. -/
def wt (d : Nat) : T → Nat
  | .mk _ _ t l => 64 + t.size + (if 4 ≤ d then 0 else wts (d + 1) l)
def wts (d : Nat) : List T → Nat
  | [] => 0
  | x :: l => wt d x + wts d l
end
theorem wt_mk (d : Nat) (x : T) : wt d x = 64 + x.t.size + (if 4 ≤ d then 0 else wts (d + 1) x.l) := by cases x; rfl
theorem wts_take {d : Nat} : ∀ {l : List T} {i : Nat} (hi : i < l.length), wts d (l.take i) + wt d l[i] + wts d (l.drop (i + 1)) = wts d l
  | x :: l, 0, hi => by simp [wts]
  | x :: l, i + 1, hi => by
    have := wts_take (d := d) (l := l) (i := i) (by simpa using hi)
    simp only [List.take_succ_cons, wts, List.getElem_cons_succ, List.drop_succ_cons]
    omega
end Go.Proofs.YteghfinngilfgaaDoor.T
