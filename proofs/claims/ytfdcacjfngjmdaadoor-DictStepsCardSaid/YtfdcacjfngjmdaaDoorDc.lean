import Derived.Deep.DeepCutAuto
import Derived.Laws.OwnMore
import Derived.OwnWalk
import Derived.Lib.AppendStr
import Derived.Lib.SliceRun
import Derived.Lib.SmallJoins
import Derived.IntWalk
import Derived.WalkMore
import Derived.Lib.OthersKept
import Derived.Deep.LoopGhost
import Derived.Deep.RegionLaw
import Derived.Deep.AppendLies
import Derived.Test.YtfdcacjfngjmdaaDoorProg
import Derived.Test.YtfdcacjfngjmdaaDoorMem
import Derived.Test.YtfdcacjfngjmdaaDoorBlk
import Derived.Test.YtfdcacjfngjmdaaDoorAp
import Derived.Test.YtfdcacjfngjmdaaDoorDb
import Derived.WalkKit
import Derived.Outline
import Derived.WalkLawsBesides
import Derived.Deep.QuietTactic
import Derived.BigQuiet
import Derived.Lib.Hide
import Derived.Handy
import Derived.Deep.RegionHeld3
import Derived.Deep.DrawnRows
import Derived.KernelRfl
import Derived.Great.Walk
import Derived.Test.YtfdcacjfngjmdaaDoorOwn
namespace Go.Proofs.YtfdcacjfngjmdaaDoor.T
open Go Go.RowKit Go.Sort Mem Own
set_option maxRecDepth 100000
set_option maxHeartbeats 1000000
set_option linter.unusedVariables false
set_option linter.unusedSimpArgs false

/-- A name and its value. -/
abbrev It := ByteArray × Value
/-- The cells of a room. -/
def ics : List It → List Value
  | [] => []
  | p :: l => .string p.1 :: p.2 :: ics l
theorem ics_len : ∀ l, (ics l).length = l.length * 2
  | [] => rfl
  | p :: l => by simp only [ics, List.length_cons, ics_len l]; omega
theorem ics_app : ∀ a b, ics (a ++ b) = ics a ++ ics b
  | [], b => rfl
  | p :: a, b => by simp only [ics, List.cons_append, ics_app a b]
theorem ics_at : ∀ (l : List It) (i : Nat) (x : It), l[i]? = some x → (ics l)[i * 2]? = some (.string x.1) ∧ (ics l)[i * 2 + 1]? = some x.2
  | [], i, x, h => by simp at h
  | p :: l, 0, x, h => by simp at h; subst h; exact ⟨rfl, rfl⟩
  | p :: l, i + 1, x, h => by
    have := ics_at l i x (by simpa using h)
    rw [show (i + 1) * 2 = i * 2 + 1 + 1 by omega]
    exact this
/-- From address A on lie the items l. -/
def RdI (w : World) (A : Option Addr) (l : List It) : Prop := l = [] ∨ ∃ b off, A = some ⟨b, off, none⟩ ∧ ∀ i x, l[i]? = some x → w.cell? ⟨b, off + i * 2, none⟩ = some (.string x.1) ∧ w.cell? ⟨b, off + i * 2 + 1, none⟩ = some x.2
theorem RdI.below {w w' : World} {A : Option Addr} {l : List It} (h : RdI w A l) (hb : Below w.heap.size w w') : RdI w' A l := by
  rcases h with h | ⟨b, off, rfl, h⟩
  · exact .inl h
  · exact .inr ⟨b, off, rfl, fun i x hx => ⟨cell_below hb (h i x hx).1, cell_below hb (h i x hx).2⟩⟩
theorem RdI.cell {w : World} {b off : Nat} {l : List It} {k : Nat} (h : RdI w (some ⟨b, off, none⟩) l) (hk : k < l.length) : w.cell? ⟨b, off + k * 2, none⟩ = some (.string l[k].1) ∧ w.cell? ⟨b, off + k * 2 + 1, none⟩ = some l[k].2 := by
  rcases h with rfl | ⟨b', off', e, h⟩
  · simp at hk
  · injection e with e; injection e with e1 e2; subst e1; subst e2
    exact h k _ (List.getElem?_eq_getElem hk)
theorem RdI.addr {w : World} {A : Option Addr} {l : List It} (h : RdI w A l) (hl : 0 < l.length) : ∃ b off, A = some ⟨b, off, none⟩ := by
  rcases h with rfl | ⟨b, off, e, h⟩
  · simp at hl
  · exact ⟨b, off, e⟩
theorem own_rdI {w : World} {B T n : Nat} {v : Value} {l : List It} (h : w.ownsRow B T 2 v n (ics l)) : ∃ A c, v = .slice A l.length c ∧ n = l.length ∧ RdI w A l ∧ l.length ≤ c ∧ c ≤ maxLen := by
  have h1 := h.1
  rw [ics_len] at h1
  obtain rfl : n = l.length := by omega
  rcases h.2 with ⟨rfl, h0⟩ | ⟨g, cap, cur, rfl, hbg, hg, hnc, hcm, _⟩
  · exact ⟨none, 0, by rw [h0], rfl, .inl (List.eq_nil_of_length_eq_zero h0), by omega, Nat.zero_le _⟩
  · refine ⟨_, cap, rfl, rfl, .inr ⟨g, 0, rfl, fun i x hx => ?_⟩, hnc, hcm⟩
    have hi : i < l.length := (List.getElem?_eq_some_iff.1 hx).1
    obtain ⟨e1, e2⟩ := ics_at l i x hx
    have c1 := h.cellAt (i * 2) (by omega)
    have c2 := h.cellAt (i * 2 + 1) (by omega)
    rw [Nat.zero_add]
    exact ⟨by rw [c1, e1], by rw [c2, e2]⟩
/-- Where a name stands in a room. -/
def ixN (l : List It) (t : ByteArray) : Option Nat := l.findIdx? fun x => x.1.toList == t.toList
def ixI (l : List It) (t : ByteArray) : Int := match ixN l t with | some i => (i : Int) | none => -1
theorem ix_some {l : List It} {t : ByteArray} {i : Nat} (hi : i < l.length) (h : (l[i].1.toList == t.toList) = true) (hno : ∀ j (hj : j < l.length), j < i → (l[j].1.toList == t.toList) = false) : ixI l t = (i : Int) := by
  have : ixN l t = some i := by
    unfold ixN
    rw [List.findIdx?_eq_some_iff_getElem]
    exact ⟨hi, h, fun j hj => by rw [hno j (by omega) hj]; simp⟩
  unfold ixI
  rw [this]
theorem ix_no {l : List It} {t : ByteArray} (hno : ∀ j (hj : j < l.length), (l[j].1.toList == t.toList) = false) : ixI l t = -1 := by
  have : ixN l t = none := by
    unfold ixN
    rw [List.findIdx?_eq_none_iff]
    intro x hx
    obtain ⟨j, hj, rfl⟩ := List.getElem_of_mem hx
    exact hno j hj
  unfold ixI
  rw [this]
/-- The test of find. -/
theorem sameS_is (b : Nat) (n t : ByteArray) (u : Value) (w : World) (hu : u.oneCell' = true) (hb : w.heap[b]? = some (.cells #[.string t] 9 (0, 0))) :
    Calls Tryd.prog 44 #[.agg #[.string n, u], .pointer (some ⟨b, 0, none⟩)] w fun e w' => e = .returned (.bool (n.toList == t.toList)) ∧ Below w.heap.size w w' := by
  have HN := Lib.hid (new1 w #[.string n, u] 69)
  have HB := Lib.hid (blk_new hb (.cells #[.string n, u] 69))
  clear hb
  obtain ⟨x0, x1⟩ := cells2 HN.out.1
  have c0 := cells1 HB.out
  go_enter Tryd.func44, Tryd.ntmps44
  go_wp2
  go_ret
  exact ⟨rfl, HN.out.2⟩
/-- slices.IndexFunc in a room. -/
theorem ixfS_is (A : Option Addr) (l : List It) (c b : Nat) (t : ByteArray) (w : World) (ha : RdI w A l) (hu : ∀ x ∈ l, x.2.oneCell' = true) (hn : l.length ≤ 1000000000000) (hb : w.heap[b]? = some (.cells #[.string t] 9 (0, 0))) :
    Calls Tryd.prog 45 #[.slice A l.length c, .func (Fn.func 44) #[] #[.pointer (some ⟨b, 0, none⟩)]] w fun e w' => e = .returned (.int .i64 (ixI l t)) ∧ Below w.heap.size w w' := by
  have HA := Lib.hid ha
  have HBK := Lib.hid hb
  have HU := Lib.hid hu
  obtain ⟨N, hN⟩ : ∃ N, N = l.length := ⟨_, rfl⟩
  have HN := Lib.hid hN
  have hN1 : N ≤ 1000000000000 := by omega
  rw [← hN]
  clear ha hb hu hN hn
  go_enter Tryd.func45, Tryd.ntmps45
  go_wp2_with fail
  go_loopw [8] (fun s8 wr => ∃ i : Nat, i ≤ N ∧ s8 = .int .i64 i ∧ RowKit.Hid (∀ j (hj : j < l.length), j < i → (l[j].1.toList == t.toList) = false) ∧ RowKit.Hid (Below w.heap.size w wr)) (fun s8 _ => N - (intOf s8).toNat)
  case atStart => exact ⟨0, Nat.zero_le _, rfl, Lib.hid (fun j _ h => by omega), Lib.hid (Below.refl _ _)⟩
  case round =>
    obtain ⟨i, hi, rfl, HNO, HB⟩ := hrel
    have hzr := HB.out.size
    by_cases hlt : i < N
    · have hlt2 := Lib.hid (show i < l.length by rw [← HN.out]; exact hlt)
      obtain ⟨b1, o1, rfl⟩ := HA.out.addr (Nat.zero_lt_of_lt hlt2.out)
      obtain ⟨g0, g1⟩ := (HA.out.below HB.out).cell hlt2.out
      have HSM := Lib.hid (fun (wx : World) (hb' : wx.heap[b]? = some (.cells #[.string t] 9 (0, 0))) => sameS_is b (l[i]'hlt2.out).1 t (l[i]'hlt2.out).2 wx (HU.out _ (List.getElem_mem hlt2.out)) hb')
      have HSO := Lib.hid (fun h => ix_some (t := t) hlt2.out h HNO.out)
      have HNX := Lib.hid (show ((l[i]'hlt2.out).1.toList == t.toList) = false → ∀ j (hj : j < l.length), j < i + 1 → (l[j].1.toList == t.toList) = false from fun h j hj hji => by
        rcases Nat.lt_or_ge j i with h' | h'
        · exact HNO.out j hj h'
        · obtain rfl : j = i := by omega
          exact h)
      generalize (l[i]'hlt2.out).1 = n at g0 HSM HSO HNX
      generalize (l[i]'hlt2.out).2 = u at g1 HSM
      generalize hq : (n.toList == t.toList) = q at HSM HSO HNX
      clear hq
      cases q with
      | true =>
        have HE := Lib.hid (HSO.out rfl)
        go_wp2_with (go_at_call 44; refine Calls.mono (HSM.out _ (keep_blk HB.out HBK.out)) ?_; (rintro e w1 ⟨rfl, hb1⟩; have HB1 := Lib.hid (HB.out.trans (hb1.mono hzr)); clear hb1))
        go_ret
        exact ⟨by rw [HE.out]; rfl, HB1.out⟩
      | false =>
        have HN2 := Lib.hid (HNX.out rfl)
        go_wp2_with (go_at_call 44; refine Calls.mono (HSM.out _ (keep_blk HB.out HBK.out)) ?_; (rintro e w1 ⟨rfl, hb1⟩; have HB1 := Lib.hid (HB.out.trans (hb1.mono hzr)); clear hb1))
        exact ⟨⟨i + 1, by omega, by go_num, HN2, HB1⟩, by simp [intOf]; omega⟩
    · have HE := Lib.hid (ix_no (l := l) (t := t) (fun j hj => HNO.out j hj (by have := HN.out; omega)))
      go_wp2
      go_ret
      exact ⟨by rw [HE.out]; rfl, HB.out⟩
/-- The test of find. -/
theorem sameI_is (b : Nat) (n t : ByteArray) (u : Value) (w : World) (hu : u.oneCell' = true) (hb : w.heap[b]? = some (.cells #[.string t] 9 (0, 0))) :
    Calls Tryd.prog 47 #[.agg #[.string n, u], .pointer (some ⟨b, 0, none⟩)] w fun e w' => e = .returned (.bool (n.toList == t.toList)) ∧ Below w.heap.size w w' := by
  have HN := Lib.hid (new1 w #[.string n, u] 80)
  have HB := Lib.hid (blk_new hb (.cells #[.string n, u] 80))
  clear hb
  obtain ⟨x0, x1⟩ := cells2 HN.out.1
  have c0 := cells1 HB.out
  go_enter Tryd.func47, Tryd.ntmps47
  go_wp2
  go_ret
  exact ⟨rfl, HN.out.2⟩
/-- slices.IndexFunc in a room. -/
theorem ixfI_is (A : Option Addr) (l : List It) (c b : Nat) (t : ByteArray) (w : World) (ha : RdI w A l) (hu : ∀ x ∈ l, x.2.oneCell' = true) (hn : l.length ≤ 1000000000000) (hb : w.heap[b]? = some (.cells #[.string t] 9 (0, 0))) :
    Calls Tryd.prog 48 #[.slice A l.length c, .func (Fn.func 47) #[] #[.pointer (some ⟨b, 0, none⟩)]] w fun e w' => e = .returned (.int .i64 (ixI l t)) ∧ Below w.heap.size w w' := by
  have HA := Lib.hid ha
  have HBK := Lib.hid hb
  have HU := Lib.hid hu
  obtain ⟨N, hN⟩ : ∃ N, N = l.length := ⟨_, rfl⟩
  have HN := Lib.hid hN
  have hN1 : N ≤ 1000000000000 := by omega
  rw [← hN]
  clear ha hb hu hN hn
  go_enter Tryd.func48, Tryd.ntmps48
  go_wp2_with fail
  go_loopw [8] (fun s8 wr => ∃ i : Nat, i ≤ N ∧ s8 = .int .i64 i ∧ RowKit.Hid (∀ j (hj : j < l.length), j < i → (l[j].1.toList == t.toList) = false) ∧ RowKit.Hid (Below w.heap.size w wr)) (fun s8 _ => N - (intOf s8).toNat)
  case atStart => exact ⟨0, Nat.zero_le _, rfl, Lib.hid (fun j _ h => by omega), Lib.hid (Below.refl _ _)⟩
  case round =>
    obtain ⟨i, hi, rfl, HNO, HB⟩ := hrel
    have hzr := HB.out.size
    by_cases hlt : i < N
    · have hlt2 := Lib.hid (show i < l.length by rw [← HN.out]; exact hlt)
      obtain ⟨b1, o1, rfl⟩ := HA.out.addr (Nat.zero_lt_of_lt hlt2.out)
      obtain ⟨g0, g1⟩ := (HA.out.below HB.out).cell hlt2.out
      have HSM := Lib.hid (fun (wx : World) (hb' : wx.heap[b]? = some (.cells #[.string t] 9 (0, 0))) => sameI_is b (l[i]'hlt2.out).1 t (l[i]'hlt2.out).2 wx (HU.out _ (List.getElem_mem hlt2.out)) hb')
      have HSO := Lib.hid (fun h => ix_some (t := t) hlt2.out h HNO.out)
      have HNX := Lib.hid (show ((l[i]'hlt2.out).1.toList == t.toList) = false → ∀ j (hj : j < l.length), j < i + 1 → (l[j].1.toList == t.toList) = false from fun h j hj hji => by
        rcases Nat.lt_or_ge j i with h' | h'
        · exact HNO.out j hj h'
        · obtain rfl : j = i := by omega
          exact h)
      generalize (l[i]'hlt2.out).1 = n at g0 HSM HSO HNX
      generalize (l[i]'hlt2.out).2 = u at g1 HSM
      generalize hq : (n.toList == t.toList) = q at HSM HSO HNX
      clear hq
      cases q with
      | true =>
        have HE := Lib.hid (HSO.out rfl)
        go_wp2_with (go_at_call 47; refine Calls.mono (HSM.out _ (keep_blk HB.out HBK.out)) ?_; (rintro e w1 ⟨rfl, hb1⟩; have HB1 := Lib.hid (HB.out.trans (hb1.mono hzr)); clear hb1))
        go_ret
        exact ⟨by rw [HE.out]; rfl, HB1.out⟩
      | false =>
        have HN2 := Lib.hid (HNX.out rfl)
        go_wp2_with (go_at_call 47; refine Calls.mono (HSM.out _ (keep_blk HB.out HBK.out)) ?_; (rintro e w1 ⟨rfl, hb1⟩; have HB1 := Lib.hid (HB.out.trans (hb1.mono hzr)); clear hb1))
        exact ⟨⟨i + 1, by omega, by go_num, HN2, HB1⟩, by simp [intOf]; omega⟩
    · have HE := Lib.hid (ix_no (l := l) (t := t) (fun j hj => HNO.out j hj (by have := HN.out; omega)))
      go_wp2
      go_ret
      exact ⟨by rw [HE.out]; rfl, HB.out⟩
end Go.Proofs.YtfdcacjfngjmdaaDoor.T
