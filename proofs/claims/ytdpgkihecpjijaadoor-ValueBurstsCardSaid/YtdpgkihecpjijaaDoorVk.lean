import Derived.Deep.DeepCutAuto
import Derived.Laws.OwnMore
import Derived.OwnWalk
import Derived.Lib.AppendStr
import Derived.Laws.IdiomStrings
import Derived.Test.YtdpgkihecpjijaaDoorProg
import Derived.Test.YtdpgkihecpjijaaDoorMem
import Derived.Test.YtdpgkihecpjijaaDoorVa
import Derived.Test.YtdpgkihecpjijaaDoorVb
import Derived.Test.YtdpgkihecpjijaaDoorVc
import Derived.Test.YtdpgkihecpjijaaDoorVd
import Derived.Test.YtdpgkihecpjijaaDoorVe
import Derived.Test.YtdpgkihecpjijaaDoorVf
import Derived.Test.YtdpgkihecpjijaaDoorVg
import Derived.Test.YtdpgkihecpjijaaDoorVh0
import Derived.Test.YtdpgkihecpjijaaDoorVh
import Derived.Test.YtdpgkihecpjijaaDoorVj
import Derived.WalkKit
import Derived.Outline
import Derived.WalkLawsBesides
import Derived.Deep.QuietTactic
import Derived.BigQuiet
import Derived.Lib.Hide
import Derived.Handy
import Derived.Deep.RegionHeld3
import Derived.Deep.DrawnRows
import Derived.KernelRfl
import Derived.Sort.Walk0
import Derived.Great.Walk
import Derived.Test.YtdpgkihecpjijaaDoorOwn
namespace Go.Proofs.YtdpgkihecpjijaaDoor.T
open Go Go.RowKit Mem Own
set_option maxRecDepth 100000
set_option maxHeartbeats 1000000
set_option linter.unusedVariables false
set_option linter.unusedSimpArgs false

def txt (s : ByteArray) : List UInt8 := two16 s.size ++ s.data.toList
def pairsB (l : List (ByteArray × ByteArray)) : List UInt8 := l.flatMap fun p => txt p.1 ++ txt p.2
def itemsB (l : List ByteArray) : List UInt8 := l.flatMap txt
/-- A value's bytes, but the sum. -/
def body (a : Vl) : List UInt8 := UInt8.ofNat (a.kind % 256).toNat ::
  (if a.kind = 1 then txt a.text else if a.kind = 2 then two16 a.pairs.length ++ pairsB a.pairs else if a.kind = 3 ∨ a.kind = 4 then two16 a.items.length ++ itemsB a.items else if a.kind = 5 then part4 a.re ++ part4 a.im else [])
def sumB (l : List UInt8) : List UInt8 := two16 (crcL 0#16 l).toNat
def dumpB (a : Vl) : List UInt8 := body a ++ sumB (body a)
theorem right_yes (v : Value) (a : Vl) (w : World) (hv : VRd w v a) (h : RightV a) : Calls Tryd.prog 18 #[v] w fun e w' => e = .returned (.bool true) ∧ Below w.heap.size w w' :=
  (right_is v a w hv).mono fun e w' ⟨r, h1, h2, h3⟩ => ⟨by rw [h1, h2.2 h], h3⟩
theorem right_no (v : Value) (a : Vl) (w : World) (hv : VRd w v a) (h : ¬ RightV a) : Calls Tryd.prog 18 #[v] w fun e w' => e = .returned (.bool false) ∧ Below w.heap.size w w' :=
  (right_is v a w hv).mono fun e w' ⟨r, h1, h2, h3⟩ => ⟨by rw [h1]; cases r; rfl; exact absurd (h2.1 rfl) h, h3⟩
theorem dump_no (v : Value) (a : Vl) (w : World) (hv : VRd w v a) (h : ¬ RightV a) :
    Calls Tryd.prog 13 #[v] w fun e w' => e = .returned (.tuple #[.string ⟨#[]⟩, .bool false]) ∧ Below w.heap.size w w' := by
  have HV := Lib.hid hv; have HN := Lib.hid h
  obtain ⟨⟨PA, pc, IA, ic, rfl, hP, hI⟩, -, -, -, -, -⟩ := hv
  clear h hP hI
  obtain ⟨k, t, ps, is, re, im⟩ := a
  dsimp only at HV ⊢
  have hu := Tryd.underlying25
  go_enter Tryd.func13, Tryd.ntmps13
  go_wp2_with (go_at_call 18; refine Calls.mono (right_no _ _ _ (HV.out.below ?_) HN.out) ?_; (focus ((repeat (first | exact Below.refl _ _ | (refine Below.drew ?_) | (refine Go.below_drewN ?_ _) | (refine Below.alloc ?_ (by first | (simp; done) | omega | (simp; omega)) _) | (refine Below.setCell ?_ (by first | (simp; done) | omega | (simp; omega)) _) | (refine Below.trans ?_ (Below.mono (by assumption) (by first | (simp; done) | omega | (simp; omega)))))); done)); rintro e w1 ⟨rfl, hb1⟩)
  go_ret2
  exact ⟨rfl, (by ((repeat (first | exact Below.refl _ _ | (refine Below.drew ?_) | (refine Go.below_drewN ?_ _) | (refine Below.alloc ?_ (by first | (simp; done) | omega | (simp; omega)) _) | (refine Below.setCell ?_ (by first | (simp; done) | omega | (simp; omega)) _) | (refine Below.trans ?_ (Below.mono (by assumption) (by first | (simp; done) | omega | (simp; omega)))))); done))⟩
theorem own8_rd {w : World} {B n : Nat} {A : Option Addr} {c : Nat} {l : List UInt8} (h : w.ownsRow B 5 1 (.slice A n c) n (bs l)) : Rd8 w A l ∧ n = l.length := by
  have h' := h
  have hl : n = l.length := by have := h.1; simpa [bs] using this.symm
  refine ⟨?_, hl⟩
  rcases h.2 with ⟨e, h0⟩ | ⟨g, cap, cur, e, _, hg, hnc, hcm, _⟩
  · left; exact List.eq_nil_of_length_eq_zero (by omega)
  · injection e with e1 e2 e3
    subst e1; subst e3
    refine .inr ⟨g, 0, rfl, fun i x hx => ?_⟩
    have hi : i < l.length := (List.getElem?_eq_some_iff.1 hx).1
    have := h'.cellAt i (by omega)
    rw [Nat.zero_add, this]
    simp [bs, hx]
/-- string(b) of a row of bytes. -/
theorem conv_own {w : World} {B n : Nat} {v : Value} {l : List UInt8} (h : w.ownsRow B 5 1 v n (bs l)) (hl : 0 < l.length) : (convert 38 9 v).run Tryd.prog w = .ok (.string ⟨l.toArray⟩) w := by
  obtain ⟨A, c, rfl⟩ := own8_slice h
  obtain ⟨h1, rfl⟩ := own8_rd h
  obtain ⟨b, off, rfl⟩ := h1.addr hl
  refine run_convert_bytes_back (P := Tryd.prog) w 38 9 5 ⟨b, off, none⟩ c l Tryd.underlying38 Tryd.underlying5 Tryd.underlying9 fun j hj => ?_
  have := h1.cell hj
  rw [← this]
  by_cases hz : j = 0
  · subst hz; simp [Addr.add]
  · simp [Addr.add, hz]
theorem sum_own {B n : Nat} {v : Value} {l : List UInt8} {w : World} (h : w.ownsRow B 5 1 v n (bs l)) (hn : l.length ≤ maxLen) (hh : Hv w) :
    Calls Tryd.prog 29 #[v] w fun e w' => e = .returned (.int .u16 ((crcL 0#16 l).toNat : Int)) ∧ w = w' := by
  obtain ⟨A, c, rfl⟩ := own8_slice h
  obtain ⟨h1, rfl⟩ := own8_rd h
  exact sum_is A l c w h1 hn hh
/-- What Dump leaves of a value that may be. -/
def DumpOut (a : Vl) (w : World) (e : Ending) (w' : World) : Prop := e = .returned (.tuple #[.string ⟨(dumpB a).toArray⟩, .bool true]) ∧ Below w.heap.size w w'
theorem dump_out {a : Vl} {w w' : World} {l : List UInt8} (h : l = body a) (hb : Below w.heap.size w w') : DumpOut a w (.returned (.tuple #[.string ⟨(l ++ two16 (crcL 0#16 l).toNat).toArray⟩, .bool true])) w' := by
  subst h; exact ⟨rfl, hb⟩
theorem own_byte (w : World) (z : Int) (x : UInt8) (h : z = x.toNat) : (w.alloc (.cells #[.int .u8 z] 5)).ownsRow w.heap.size 5 1 (.slice (some ⟨w.heap.size, 0, none⟩) 1 1) 1 (bs [x]) := by
  subst h
  have := World.ownsRow_lit (e := 5) (size := 1) w #[.int .u8 (x.toNat : Int)] 1 (Nat.le_refl _) (by decide) rfl
  exact this
end Go.Proofs.YtdpgkihecpjijaaDoor.T
