import Derived.Deep.DeepCutAuto
import Derived.Laws.OwnMore
import Derived.OwnWalk
import Derived.Lib.AppendStr
import Derived.Laws.IdiomStrings
import Derived.Lib.ConvBytes
import Derived.Lib.SmallJoins
import Derived.IntWalk
import Derived.Deep.AppendLies
import Derived.Deep.RegionLaw
import Derived.Test.YtdpgkihecpjijaaDoorProg
import Derived.Test.YtdpgkihecpjijaaDoorMem
import Derived.Test.YtdpgkihecpjijaaDoorVu
import Derived.WalkKit
import Derived.Outline
import Derived.WalkLawsBesides
import Derived.Deep.QuietTactic
import Derived.BigQuiet
import Derived.Lib.Hide
import Derived.Handy
import Derived.Deep.RegionHeld3
import Derived.Deep.DrawnRows
import Derived.KernelRfl
import Derived.Sort.Walk0
import Derived.Great.Walk
import Derived.Test.YtdpgkihecpjijaaDoorOwn
namespace Go.Proofs.YtdpgkihecpjijaaDoor.T
open Go Go.RowKit Mem Own
set_option maxRecDepth 100000
set_option maxHeartbeats 1000000
set_option linter.unusedVariables false
set_option linter.unusedSimpArgs false

theorem rvalue_is (g : Nat) (s : ByteArray) (bad : Bool) (w : World) (h : Rdr w g s bad) (hs : s.size ≤ maxLen) :
    Calls Tryd.prog 33 #[.pointer (some ⟨g, 0, none⟩)] w (ValOut g (rdVal s bad) w) := by
  generalize hr : rdNum 1 s bad = r
  obtain ⟨k, s1, b1⟩ := r
  by_cases h1 : k = 1
  · exact rv_text g k s s1 bad b1 w h hs hr h1
  by_cases h2 : k = 2
  · exact rv_hash g k s s1 bad b1 w h hs hr h2
  by_cases h3 : k = 3
  · exact rv_list g k s s1 bad b1 w h hs hr h3
  by_cases h4 : k = 4
  · exact rv_set g k s s1 bad b1 w h hs hr h4
  by_cases h5 : k = 5
  · exact rv_point g k s s1 bad b1 w h hs hr h5
  · exact rv_other g k s s1 bad b1 w h hs hr ⟨h1, h2, h3, h4, h5⟩
def zeroV : Vl := ⟨0, ⟨#[]⟩, [], [], 0, 0⟩
/-- The bytes but the sum; the sum. -/
def headB (s : ByteArray) : ByteArray := s.extract 0 (s.size - 2)
def sumOk (s : ByteArray) : Prop := sumB (headB s).data.toList = (s.extract (s.size - 2) s.size).data.toList
def goodR (r : Vl × ByteArray × Bool) : Prop := r.2.2 = false ∧ r.2.1.size = 0 ∧ RightV r.1
open Classical in
/-- What Load tells. -/
noncomputable def loadV (s : ByteArray) : Vl × Int :=
  if s.size < 3 then (zeroV, 100) else if ¬ sumOk s then (zeroV, 101) else if goodR (rdVal (headB s) false) then ((rdVal (headB s) false).1, 0) else (zeroV, 100)
def LoadOut (s : ByteArray) (w : World) (e : Ending) (w' : World) : Prop := ∃ u, e = .returned (.tuple #[u, .int .i64 (loadV s).2]) ∧ RowKit.Hid (VRd w' u (loadV s).1) ∧ Below w.heap.size w w'
theorem zero_rd (w : World) : VRd w (vV 0 ⟨#[]⟩ none 0 0 none 0 0 0 0) zeroV := ⟨⟨none, 0, none, 0, rfl, .inl rfl, .inl rfl⟩, Nat.zero_le _, Nat.zero_le _, Nat.zero_le _, (fun _ h => by cases h), (fun _ h => by cases h)⟩
theorem load_zero {s : ByteArray} {c : Int} {w w' : World} (h : loadV s = (zeroV, c)) (hb : Below w.heap.size w w') : LoadOut s w (.returned (.tuple #[vV 0 ⟨#[]⟩ none 0 0 none 0 0 0 0, .int .i64 c])) w' :=
  ⟨_, by rw [h], Lib.hid (by rw [h]; exact zero_rd w'), hb⟩
theorem bw_rd (w : World) (s : ByteArray) : Rd8 (Lib.bytesWorld w 5 s) (some ⟨w.heap.size, 0, none⟩) s.data.toList := by
  refine .inr ⟨w.heap.size, 0, rfl, fun i x hx => ?_⟩
  have hi : i < s.data.toList.length := (List.getElem?_eq_some_iff.1 hx).1
  have := Lib.bytesWorld_cell w 5 s i (by simpa using hi)
  rw [Nat.zero_add, this]
  have e : s.data.toList.getD i 0 = x := by simp [List.getD, hx]
  rw [e]
/-- crc.Sum([]byte(t)) -/
theorem sum_bw (b m C : Nat) (t : ByteArray) (c : Nat) (w : World) (hC : (crcL 0#16 t.data.toList).toNat = C) (hb : w.heap.size = b) (hm : t.size = m) (ht : t.size ≤ maxLen) (hh : Hv w) :
    Calls Tryd.prog 29 #[.slice (some ⟨b, 0, none⟩) m c] (Lib.bytesWorld w 5 t) fun e w' => e = .returned (.int .u16 (C : Int)) ∧ Lib.bytesWorld w 5 t = w' := by
  subst hb
  subst hm
  subst hC
  exact sum_is _ t.data.toList c _ (bw_rd w t) (by simpa using ht) (hh.below (Joins.below_bytesWorld _ w 5 t (Nat.le_refl _)))
theorem two_nil (n : Nat) (w : World) (hn : n < 65536) : Calls Tryd.prog 27 #[.slice none 0 0, .int .i64 (n : Int)] w fun e w' => ∃ v, e = .returned v ∧ RowKit.Hid ((convert 38 9 v).run Tryd.prog w' = .ok (.string ⟨(two16 n).toArray⟩) w') ∧ Below w.heap.size w w' := by
  refine (two_is w.heap.size (.slice none 0 0) [] 0 n w (World.ownsRow_nil _ _ _ _) (Nat.le_refl _) (by decide) hn).mono ?_
  rintro e w' ⟨v, rfl, ho, hk⟩
  exact ⟨v, rfl, Lib.hid (conv_own ho.out (by simp [two16])), hk.out.1⟩
theorem load_short (s : ByteArray) (w : World) (h : s.size < 3) : Calls Tryd.prog 15 #[.string s] w (LoadOut s w) := by
  have HV := Lib.hid (show loadV s = (zeroV, 100) by unfold loadV; rw [if_pos h])
  go_enter Tryd.func15, Tryd.ntmps15
  go_wp2
  exact bodyPost_ret (v := .tuple #[vV 0 ⟨#[]⟩ none 0 0 none 0 0 0 0, .int .i64 100]) (by simp [results, Tryd.results15, go_sem]) rfl (load_zero HV.out (by ((repeat (first | exact Below.refl _ _ | (refine Below.drew ?_) | (refine Go.below_drewN ?_ _) | (refine Below.alloc ?_ (by first | (simp; done) | omega | (simp; omega)) _) | (refine Below.setCell ?_ (by first | (simp; done) | omega | (simp; omega)) _) | (refine Below.trans ?_ (Below.mono (by assumption) (by first | (simp; done) | omega | (simp; omega)))))); done)))
theorem only_to_below {B g : Nat} {w0 w w' : World} (h : Below B w0 w) (ho : w.grownBy w' (some g)) (hg : B ≤ g) (hB : B ≤ w.heap.size) : Below B w0 w' :=
  ⟨ho.os.trans h.os, ho.tape.trans h.tape, ho.output.trans h.output, Nat.le_trans h.size ho.size, fun k hk => (ho.block k (by omega) (fun e => by injection e with e; omega)).trans (h.block k hk)⟩
theorem load_good {s : ByteArray} {a : Vl} {v : Value} {w w' : World} (h : loadV s = (a, 0)) (hv : VRd w' v a) (hb : Below w.heap.size w w') : LoadOut s w (.returned (.tuple #[v, .int .i64 0])) w' :=
  ⟨_, by rw [h], Lib.hid (by rw [h]; exact hv), hb⟩
theorem vrd_over {w : World} {b : Nat} {a : Vl} {PA : Option Addr} {pc : Nat} {IA : Option Addr} {ic : Nat} (hz : w.heap[b]? = some (.cells #[.int .i64 0, .string ⟨#[]⟩, .slice none 0 0, .slice none 0 0, .int .i64 0, .int .i64 0] 27 (0, 0)))
    (h : VRd w (vV a.kind a.text PA a.pairs.length pc IA a.items.length ic a.re a.im) a) (hr : RightV a) :
    VRd ((((((w.setCell ⟨b, 0, none⟩ (.int .i64 a.kind)).setCell ⟨b, 1, none⟩ (.string a.text)).setCell ⟨b, 2, none⟩ (.slice PA a.pairs.length pc)).setCell ⟨b, 3, none⟩ (.slice IA a.items.length ic)).setCell ⟨b, 4, none⟩ (.int .i64 a.re)).setCell ⟨b, 5, none⟩ (.int .i64 a.im))
      (vV a.kind a.text PA a.pairs.length pc IA a.items.length ic a.re a.im) a := by
  obtain ⟨⟨PA', pc', IA', ic', heq, hP, hI⟩, a1, a2, a3, a4, a5⟩ := h
  simp only [vV, Value.agg.injEq, Array.mk.injEq, List.cons.injEq, Value.slice.injEq, true_and, and_true] at heq
  obtain ⟨⟨rfl, rfl⟩, rfl, rfl⟩ := heq
  refine ⟨⟨PA, pc, IA, ic, rfl, ?_, ?_⟩, a1, a2, a3, a4, a5⟩
  · by_cases hn : ∃ off, PA = some ⟨b, off, none⟩
    · left
      obtain ⟨off, rfl⟩ := hn
      rcases hP with h0 | ⟨k, o, e, hc⟩
      · exact h0
      · cases e
        cases hp : a.pairs with
        | nil => rfl
        | cons p l =>
          exfalso
          have h0 := hc 0 p (by rw [hp]; rfl)
          have g0 := of_blk hz (off + 0 * 2)
          have g1 := of_blk hz (off + 0 * 2 + 1)
          rw [h0.1] at g0
          rw [h0.2] at g1
          rcases off with _ | _ | _ | _ | _ | _ | off <;> simp at g0 g1
    · exact hP.blk fun k off e => blk_s6 (fun hk => hn ⟨off, by rw [e, hk]⟩) _ _ _ _ _ _
  · by_cases hn : ∃ off, IA = some ⟨b, off, none⟩
    · obtain ⟨off, rfl⟩ := hn
      rcases hI with h0 | ⟨k, o, e, hc⟩
      · exact .inl h0
      · cases e
        have g := fun i => of_blk hz (off + i)
        cases hp : a.items with
        | nil => exact .inl rfl
        | cons x l =>
          have h0 := hc 0 x (by rw [hp]; rfl)
          have g0 := g 0
          rw [h0] at g0
          have ht : a.text = ⟨#[]⟩ := by
            have e := congrArg Vl.text hr.1
            have ei := congrArg Vl.items hr.1
            simp only [bareV] at e ei
            by_cases h1 : a.kind = 1
            · rw [if_neg (by omega), hp] at ei; cases ei
            · rw [e, if_neg h1]
          right
          refine ⟨b, off, rfl, fun i y hy => ?_⟩
          have hyc := hc i y (by rw [hp]; exact hy)
          have gi := g i
          rw [hyc] at gi
          have f1 := (facts6 (set6 (.int .i64 a.kind) (.string a.text) (.slice PA a.pairs.length pc) (.slice (some ⟨b, off, none⟩) a.items.length ic) (.int .i64 a.re) (.int .i64 a.im) hz)).2.1
          rcases hq : off + i with _ | _ | _ | _ | _ | _ | q <;> rw [hq] at gi <;> simp at gi
          subst gi
          simp only [hp] at f1 ⊢
          rw [ht] at f1 ⊢
          exact f1
    · exact rdblk hI fun k off e => blk_s6 (fun hk => hn ⟨off, by rw [e, hk]⟩) _ _ _ _ _ _
end Go.Proofs.YtdpgkihecpjijaaDoor.T
