import Derived.Test.YtdpgkihecpjijaaDoorProg
import Derived.Test.YtdpgkihecpjijaaDoorMem
import Derived.WalkKit
import Derived.Outline
import Derived.WalkLawsBesides
import Derived.Deep.QuietTactic
import Derived.BigQuiet
import Derived.Lib.Hide
import Derived.Handy
import Derived.Deep.RegionHeld3
import Derived.Deep.DrawnRows
import Derived.KernelRfl
import Derived.Sort.Walk0
import Derived.Great.Walk
import Derived.Test.YtdpgkihecpjijaaDoorOwn
namespace Go.Proofs.YtdpgkihecpjijaaDoor.T
open Go Go.RowKit Mem Own
set_option maxRecDepth 100000
set_option maxHeartbeats 1000000
set_option linter.unusedVariables false
set_option linter.unusedSimpArgs false

/-- From address A on lie the pairs l. -/
def RdP (w : World) (A : Option Addr) (l : List (ByteArray × ByteArray)) : Prop :=
  l = [] ∨ ∃ b off, A = some ⟨b, off, none⟩ ∧ ∀ i p, l[i]? = some p → w.cell? ⟨b, off + i * 2, none⟩ = some (.string p.1) ∧ w.cell? ⟨b, off + i * 2 + 1, none⟩ = some (.string p.2)
theorem RdP.below {w w' : World} {A : Option Addr} {l : List (ByteArray × ByteArray)} (h : RdP w A l) (hb : Below w.heap.size w w') : RdP w' A l := by
  rcases h with h | ⟨b, off, rfl, h⟩
  · exact .inl h
  · exact .inr ⟨b, off, rfl, fun i x hx => ⟨cell_below hb (h i x hx).1, cell_below hb (h i x hx).2⟩⟩
theorem RdP.alloc {w : World} {A : Option Addr} {l : List (ByteArray × ByteArray)} (h : RdP w A l) (o : Obj) : RdP (w.alloc o) A l := h.below ((Below.refl _ _).alloc (Nat.le_refl _) o)
theorem RdP.cell {w : World} {b off : Nat} {l : List (ByteArray × ByteArray)} {k : Nat} (h : RdP w (some ⟨b, off, none⟩) l) (hk : k < l.length) :
    w.cell? ⟨b, off + k * 2, none⟩ = some (.string l[k].1) ∧ w.cell? ⟨b, off + k * 2 + 1, none⟩ = some (.string l[k].2) := by
  rcases h with rfl | ⟨b', off', e, h⟩
  · simp at hk
  · injection e with e; injection e with e1 e2; subst e1; subst e2
    exact h k _ (List.getElem?_eq_getElem hk)
theorem RdP.addr {w : World} {A : Option Addr} {l : List (ByteArray × ByteArray)} (h : RdP w A l) (hl : 0 < l.length) : ∃ b off, A = some ⟨b, off, none⟩ := by
  rcases h with rfl | ⟨b, off, e, h⟩
  · simp at hl
  · exact ⟨b, off, e⟩
theorem drewN_below {B : Nat} {w w' : World} (h : Below B w w') (q : Nat) : Below B w (w'.drewN q) := Go.below_drewN h q
abbrev vV (k : Int) (t : ByteArray) (PA : Option Addr) (pn pc : Nat) (IA : Option Addr) (n ic : Nat) (re im : Int) : Value :=
  .agg #[.int .i64 k, .string t, .slice PA pn pc, .slice IA n ic, .int .i64 re, .int .i64 im]

theorem eq_of_same {α : Type} {la lb : List α} (hl : la.length = lb.length) (h : ∀ j (h1 : j < la.length) (h2 : j < lb.length), la[j] = lb[j]) : la = lb := List.ext_getElem hl h
/-- slices.Equal at []string -/
theorem eqs_is (A B : Option Addr) (la lb : List ByteArray) (ca cb : Nat) (w : World) (ha : Rd w A la) (hb : Rd w B lb) (hn : la.length ≤ maxLen) :
    Calls Tryd.prog 51 #[.slice A la.length ca, .slice B lb.length cb] w fun e w' => e = .returned (.bool (decide (la = lb))) ∧ Below w.heap.size w w' := by
  unfold maxLen at hn
  go_enter Tryd.func51, Tryd.ntmps51
  have HA := Lib.hid ha; have HB := Lib.hid hb
  clear ha hb
  by_cases hl : la.length = lb.length
  · obtain ⟨N, hN⟩ : ∃ N, N = la.length := ⟨_, rfl⟩
    rw [← hl, ← hN]
    have hNa : la.length = N := hN.symm
    have hNb : lb.length = N := by omega
    have HNa := Lib.hid hNa; have HNb := Lib.hid hNb
    rw [← hN] at hn
    clear hN hNa hNb hl
    go_wp2_with fail
    go_loopw [13] (fun x wr => ∃ k : Nat, k ≤ N ∧ x = .int .i64 k ∧ RowKit.Hid (Below w.heap.size w wr) ∧ RowKit.Hid (∀ j (h1 : j < la.length) (h2 : j < lb.length), j < k → la[j] = lb[j])) (fun x _ => N - (intOf x).toNat)
    case atStart => exact ⟨0, Nat.zero_le _, rfl, Lib.hid (Below.refl _ _), Lib.hid fun j _ _ h => by omega⟩
    case round =>
      obtain ⟨k, hk, rfl, HBW, HS⟩ := hrel
      by_cases hlt : k < N
      · have hlta := Lib.hid (show k < la.length by rw [HNa.out]; exact hlt)
        have hltb := Lib.hid (show k < lb.length by rw [HNb.out]; exact hlt)
        obtain ⟨b1, o1, rfl⟩ := HA.out.addr (Nat.zero_lt_of_lt hlta.out)
        obtain ⟨b2, o2, rfl⟩ := HB.out.addr (Nat.zero_lt_of_lt hltb.out)
        have g1 := cell_below HBW.out (HA.out.cell hlta.out)
        have g2 := cell_below HBW.out (HB.out.cell hltb.out)
        obtain ⟨x, hx⟩ : ∃ x, x = la[k]'hlta.out := ⟨_, rfl⟩
        obtain ⟨y, hy⟩ : ∃ y, y = lb[k]'hltb.out := ⟨_, rfl⟩
        rw [← hx] at g1
        rw [← hy] at g2
        have HX := Lib.hid hx; have HY := Lib.hid hy
        clear hx hy
        by_cases hxy : x = y
        · have e1 : (!x.toList == y.toList) = false := by simp [hxy]
          have HE := Lib.hid hxy
          clear hxy
          go_wp2
          go_quiet (fail)
          go_wp2
          refine ⟨⟨k + 1, by omega, by go_num, Lib.hid (drewN_below HBW.out _), Lib.hid fun j h1 h2 hj => ?_⟩, by simp [intOf]; omega⟩
          rcases Nat.lt_succ_iff_lt_or_eq.1 hj with h | h
          · exact HS.out j h1 h2 h
          · subst h; rw [← HX.out, ← HY.out]; exact HE.out
        · have e1 : (!x.toList == y.toList) = true := by simp; exact fun h => hxy (ba_inj h)
          have HE := Lib.hid hxy
          clear hxy
          go_wp2
          go_quiet (fail)
          go_wp2
          go_ret
          refine ⟨ret_bool (Eq.symm (decide_eq_false fun e => HE.out ?_)), drewN_below HBW.out _⟩
          rw [HX.out, HY.out]; simp [e]
      · have e : la = lb := eq_of_same (by rw [HNa.out, HNb.out]) fun j h1 h2 => HS.out j h1 h2 (by have := HNa.out; omega)
        go_wp2
        go_ret
        exact ⟨ret_bool (decide_eq_true e).symm, HBW.out⟩
  · have hl2 : ((la.length : Int) != (lb.length : Int)) = true := by simp; omega
    have HL := Lib.hid hl
    clear hl
    go_wp2
    go_ret
    exact ⟨ret_bool (decide_eq_false fun e => HL.out (by rw [e])).symm, Below.refl _ _⟩
end Go.Proofs.YtdpgkihecpjijaaDoor.T
