import Derived.Deep.DeepCutAuto
import Derived.Laws.OwnMore
import Derived.OwnWalk
import Derived.Lib.AppendStr
import Derived.Lib.SliceRun
import Derived.Lib.SmallJoins
import Derived.IntWalk
import Derived.Lib.ItoaLen
import Derived.WalkMore
import Derived.Lib.OthersKept
import Derived.Laws.Runes
import Derived.Deep.LoopGhost
import Derived.Deep.RegionLaw
import Derived.Deep.AppendLies
import Derived.Test.YteghfinngilfgaaDoorProg
import Derived.Test.YteghfinngilfgaaDoorMem
import Derived.Test.YteghfinngilfgaaDoorYi
import Derived.Test.YteghfinngilfgaaDoorZr
import Derived.WalkKit
import Derived.Outline
import Derived.WalkLawsBesides
import Derived.Deep.QuietTactic
import Derived.BigQuiet
import Derived.Lib.Hide
import Derived.Handy
import Derived.Deep.RegionHeld3
import Derived.Deep.DrawnRows
import Derived.KernelRfl
import Derived.Great.Walk
import Derived.Test.YteghfinngilfgaaDoorOwn
namespace Go.Proofs.YteghfinngilfgaaDoor.T
open Go Go.RowKit Go.Sort Mem Own
set_option maxRecDepth 100000
set_option maxHeartbeats 1000000
set_option linter.unusedVariables false
set_option linter.unusedSimpArgs false

theorem info5 : (Tryd.prog.info? 5).map (fun i => (i.zero, i.size, i.bytes)) = some (some (.int .u8 0), 1, 1) := by kernel_rfl
/-- A block of another kind stands while a row of bytes is appended to. -/
theorem typ_stay {wa w1 : World} {B m k : Nat} {v : Value} {xs : List Value} {cs : Array Value} {T : TypeId} {fr : Nat × Nat} (ho : wa.ownsRow B 5 1 v m xs) (hg : wa.grownBy w1 v.ownBlock) (hk : wa.heap[k]? = some (.cells cs T fr)) (hT : T ≠ 5) : w1.heap[k]? = some (.cells cs T fr) := by
  rw [hg.block k (lt_of_blk hk) (fun e => ?_)]
  · exact hk
  · rcases ho.2 with ⟨rfl, _⟩ | ⟨g, cap, cur, rfl, _, hgg, _⟩
    · simp [Value.ownBlock] at e
    · simp [Value.ownBlock] at e
      subst e
      rw [hgg] at hk
      injection hk with hk
      injection hk with _ h2 _
      exact hT h2.symm
theorem app_str {wa : World} {B m : Nat} {v : Value} {bs : List UInt8} (s : ByteArray) (ho : wa.ownsRow B 5 1 v m (bcs bs)) (hn : m + s.size ≤ 140737488355328) (hB : B ≤ wa.heap.size) :
    ∃ v' w', (Builtin.append_ #[42, 9] 42 #[v, .string s]).run Tryd.prog wa = .ok v' w' ∧ (w'.ownsRow B 5 1 v' (m + s.size) (bcs (bs ++ s.toList)) ∧ wa.grownBy w' v.ownBlock) := by
  obtain ⟨i0, hi, hz0, hz1, hz2⟩ := info_parts info5
  obtain ⟨v', w', h1, h2, h3, -⟩ := Lib.run_append_own_string (P := Tryd.prog) wa B 42 9 42 5 i0 Tryd.underlying42 Tryd.underlying9 hi hz0 hz1 hz2 v m (bcs bs) ho s (by unfold maxLen; omega) hn hB
  exact ⟨v', w', h1, by rw [bcs_app, ← bcs_str]; exact h2, h3⟩
theorem app_byte {wa : World} {B m b : Nat} {v : Value} {bs : List UInt8} {x : UInt8} {z : Int} (hx : z = x.toNat) (ho : wa.ownsRow B 5 1 v m (bcs bs)) (hb : wa.heap[b]? = some (.cells #[.int .u8 z] 5 (0, 0))) (hn : m + 1 ≤ 140737488355328) (hB : B ≤ wa.heap.size) :
    ∃ v' w', (Builtin.append_ #[42, 42] 42 #[v, .slice (some ⟨b, 0, none⟩) 1 1]).run Tryd.prog wa = .ok v' w' ∧ (w'.ownsRow B 5 1 v' (m + 1) (bcs (bs ++ [x])) ∧ wa.grownBy w' v.ownBlock) := by
  subst hx
  obtain ⟨i0, hi, hz0, hz1, hz2⟩ := info_parts info5
  obtain ⟨v', w', h1, h2, h3, -⟩ := run_append_own (P := Tryd.prog) wa B 42 42 5 i0 _ 1 1 Tryd.underlying42 hi hz0 hz1 hz2 rfl (by decide) v m (bcs bs) ho ⟨b, 0, none⟩ 1 1 [.int .u8 (x.toNat : Int)] rfl (fun j u hj => by cases j with | zero => (simp at hj; subst hj; rw [addr_add]; exact of_blk hb 0) | succ => simp at hj) (by intro u hu; simp at hu; subst hu; rfl) (by unfold maxLen; omega) (by omega) hB
  exact ⟨v', w', h1, by rw [bcs_app]; exact h2, h3⟩
/-- What reply.write leaves. -/
def WOut (r : Option (List UInt8)) (bs : List UInt8) (B : Nat) (w0 : World) (e : Ending) (w' : World) : Prop :=
  ((r = none ∧ e = .returned (.tuple #[.slice none 0 0, .bool false])) ∨ (∃ bytes v' m', r = some bytes ∧ e = .returned (.tuple #[v', .bool true]) ∧ w'.ownsRow B 5 1 v' m' (bcs (bs ++ bytes)))) ∧ Below B w0 w'
theorem wout_no {r : Option (List UInt8)} {bs : List UInt8} {B : Nat} {w0 w' : World} (h : r = none) (hb : Below B w0 w') : WOut r bs B w0 (.returned (.tuple #[.slice none 0 0, .bool false])) w' := ⟨.inl ⟨h, rfl⟩, hb⟩
theorem wout_yes {r : Option (List UInt8)} {bs bytes : List UInt8} {B m' : Nat} {w0 w' : World} {v' : Value} (h : r = some bytes) (ho : w'.ownsRow B 5 1 v' m' (bcs (bs ++ bytes))) (hb : Below B w0 w') : WOut r bs B w0 (.returned (.tuple #[v', .bool true])) w' := ⟨.inr ⟨bytes, v', m', h, rfl, ho⟩, hb⟩
/-- Below, while a row of the call's own is appended to. -/
theorem below_own {wa w1 w0 : World} {B m : Nat} {v : Value} {xs : List Value} (h : Below B w0 wa) (ho : wa.ownsRow B 5 1 v m xs) (hg : wa.grownBy w1 v.ownBlock) (hB : B ≤ wa.heap.size) : Below B w0 w1 :=
  h.grown hg hB (fun k hk => (ho.lt k hk).1)
theorem crlf_list : (⟨#[13, 10]⟩ : ByteArray).toList = crlf := by decide +kernel
theorem text_eq (bs : List UInt8) (x : UInt8) (t : List UInt8) : bs ++ [x] ++ t ++ (⟨#[13, 10]⟩ : ByteArray).toList = bs ++ (x :: (t ++ crlf)) := by rw [crlf_list]; simp
set_option maxHeartbeats 2000000 in
theorem write_text (x : T) (d : Nat) (A : Option Addr) (c : Nat) (v : Value) (m : Nat) (bs : List UInt8) (w0 w : World) (hk : x.k = 1) (hbr : bareB x = true) (ht : x.t.size < 4294967281) (hb : Below w0.heap.size w0 w) (hO : w.ownsRow w0.heap.size 5 1 v m (bcs bs)) (hm : m + x.t.size + 64 ≤ 140737488355328) :
    Calls Tryd.prog 23 #[v, tV x.k x.z x.t A x.l.length c, .int .i64 d] w (WOut (enc d x) bs w0.heap.size w0) := by
  have HP := Lib.hid (fun wx => pbare_is x A c wx)
  rw [hbr] at HP
  have HE := Lib.hid (enc_1 (d := d) hbr hk)
  have HW := Lib.hid hb
  have HOW := Lib.hid hO
  have hpl := plain_has x.t
  generalize enc d x = r at HE ⊢
  clear hb hO hbr
  have HN := Lib.hid (new1 w #[.int .i64 x.k, .int .i64 x.z, .string x.t, .slice A x.l.length c] 24)
  generalize x.k = k at hk HN HP ⊢
  subst hk
  generalize x.z = z at HN HP ⊢
  generalize x.t = t at HN HP HE ht hm hpl ⊢
  generalize x.l.length = n at HN HP ⊢
  have HPL := Lib.hid hpl
  clear hpl
  have HX0 := Lib.hid HN.out.1
  obtain ⟨x0, x1, x2, x3⟩ := cells4 HX0.out
  have hzw := HW.out.size
  cases hcr : hasCR t with
  | true =>
    have hr : r = none := by rw [HE.out, if_neg (by rw [HPL.out, hcr]; simp)]
    subst hr
    have HCR := Lib.hid hcr
    clear hcr
    go_enter Tryd.func23, Tryd.ntmps23
    go_wp2_with (first
      | (go_at_call 27; refine Calls.mono (HP.out _) ?_; (rintro e w1 ⟨rfl, hb1⟩; have HX1 := Lib.hid (keep_blk hb1 HX0.out); have HB1 := Lib.hid (HW.out.trans ((HN.out.2.trans (hb1.mono HN.out.2.size)).mono hzw)); clear x0 x1 x2 x3 hb1; obtain ⟨x0, x1, x2, x3⟩ := cells4 HX1.out))
      | (go_at_call 28; refine Calls.mono (cany_is t _ ht) ?_; (rintro e w2 ⟨rfl, hb2⟩; rw [HCR.out]; have HB2 := Lib.hid (HB1.out.trans (hb2.mono HB1.out.size)); clear hb2)))
    go_ret2
    exact wout_no rfl HB2.out
  | false =>
    have HCR := Lib.hid hcr
    clear hcr
    by_cases h509 : 509 < t.size
    · have h509b : decide ((509 : Int) < (t.size : Int)) = true := by simp; omega
      have hr : r = none := by rw [HE.out, if_neg (by rw [HPL.out]; simp; omega)]
      subst hr
      go_enter Tryd.func23, Tryd.ntmps23
      go_wp2_with (first
        | (go_at_call 27; refine Calls.mono (HP.out _) ?_; (rintro e w1 ⟨rfl, hb1⟩; have HX1 := Lib.hid (keep_blk hb1 HX0.out); have HB1 := Lib.hid (HW.out.trans ((HN.out.2.trans (hb1.mono HN.out.2.size)).mono hzw)); clear x0 x1 x2 x3 hb1; obtain ⟨x0, x1, x2, x3⟩ := cells4 HX1.out))
        | (go_at_call 28; refine Calls.mono (cany_is t _ ht) ?_; (rintro e w2 ⟨rfl, hb2⟩; rw [HCR.out]; have HB2 := Lib.hid (HB1.out.trans (hb2.mono HB1.out.size)); have HX2 := Lib.hid (keep_blk hb2 HX1.out); clear x0 x1 x2 x3 hb2; obtain ⟨x0, x1, x2, x3⟩ := cells4 HX2.out)))
      go_ret2
      exact wout_no rfl HB2.out
    · have h509b : decide ((509 : Int) < (t.size : Int)) = false := by simp; omega
      have hr : r = some (43 :: (t.toList ++ crlf)) := by rw [HE.out, if_pos (by rw [HPL.out, HCR.out]; simp; omega)]
      have HR := Lib.hid hr
      clear hr h509
      go_enter Tryd.func23, Tryd.ntmps23
      go_wp2_with (first
        | (go_at_call 27; refine Calls.mono (HP.out _) ?_; (rintro e w1 ⟨rfl, hb1⟩; have HX1 := Lib.hid (keep_blk hb1 HX0.out); have HB1 := Lib.hid (HW.out.trans ((HN.out.2.trans (hb1.mono HN.out.2.size)).mono hzw)); have HO1 := Lib.hid (own_bl HOW.out (HN.out.2.trans (hb1.mono HN.out.2.size))); clear x0 x1 x2 x3 hb1; obtain ⟨x0, x1, x2, x3⟩ := cells4 HX1.out))
        | (go_at_call 28; refine Calls.mono (cany_is t _ ht) ?_; (rintro e w2 ⟨rfl, hb2⟩; rw [HCR.out]; have HB2 := Lib.hid (HB1.out.trans (hb2.mono HB1.out.size)); have HX2 := Lib.hid (keep_blk hb2 HX1.out); have HO2 := Lib.hid (own_bl HO1.out hb2); clear x0 x1 x2 x3 hb2; obtain ⟨x0, x1, x2, x3⟩ := cells4 HX2.out)))
      have hz2' := HB2.out.size
      have hw0 : w0.heap.size ≤ w2.heap.size := hz2'
      have hB2 := HB2.out
      have hk2 := lt_of_blk HX2.out
      go_region_law
        (first
          | (refine Own.step_append_run rfl (.tmp 39) (.tmp 41) 42 42 rfl v (.slice (some ⟨w2.heap.size, 0, none⟩) 1 1) rfl rfl _ (app_byte (x := 43) (B := w0.heap.size) rfl (by exact (HO2.out.alloc _)) (by exact (heap_alloc_new w2 _)) (by omega) (by first | omega | (simp; omega))) ?_; (rintro v3 w3 ⟨hO3, hG3⟩; have HO3 := Lib.hid hO3; have HX3 := Lib.hid (typ_stay (by exact (HO2.out.alloc _)) hG3 (by exact (blk_new HX2.out _)) (by decide)); have HB3 := Lib.hid (below_own (w0 := w0) (B := w0.heap.size) (by ((repeat (first | exact Below.refl _ _ | (refine Below.drew ?_) | (refine Go.below_drewN ?_ _) | (refine Below.alloc ?_ (by first | (simp; done) | omega | (simp; omega)) _) | (refine Below.setCell ?_ (by first | (simp; done) | omega | (simp; omega)) _) | (refine Below.trans ?_ (Below.mono (by assumption) (by first | (simp; done) | omega | (simp; omega)))))); done)) (by exact (HO2.out.alloc _)) hG3 (by first | omega | (simp; omega))); have hz3 := HB3.out.size; have hB3 := HB3.out; clear hO3 hG3 x0 x1 x2 x3; obtain ⟨x0, x1, x2, x3⟩ := cells4 HX3.out))
          | (refine Own.step_append_run rfl (.tmp 42) (.tmp 44) 42 9 rfl v3 (.string t) rfl rfl _ (app_str (B := w0.heap.size) t (by exact HO3.out) (by omega) (by first | omega | (simp; omega))) ?_; (rintro v4 w4 ⟨hO4, hG4⟩; have HO4 := Lib.hid hO4; have HB4 := Lib.hid (below_own (w0 := w0) (B := w0.heap.size) (by ((repeat (first | exact Below.refl _ _ | (refine Below.drew ?_) | (refine Go.below_drewN ?_ _) | (refine Below.alloc ?_ (by first | (simp; done) | omega | (simp; omega)) _) | (refine Below.setCell ?_ (by first | (simp; done) | omega | (simp; omega)) _) | (refine Below.trans ?_ (Below.mono (by assumption) (by first | (simp; done) | omega | (simp; omega)))))); done)) (by exact HO3.out) hG4 (by first | omega | (simp; omega))); have hz4 := HB4.out.size; have hB4 := HB4.out; clear hO4 hG4))
          | (refine Own.step_append_run rfl (.tmp 45) (.const (.string ⟨#[13, 10]⟩)) 42 9 rfl v4 (.string ⟨#[13, 10]⟩) rfl rfl _ (app_str (B := w0.heap.size) ⟨#[13, 10]⟩ (by exact HO4.out) (by show m + 1 + t.size + 2 ≤ _; omega) (by first | omega | (simp; omega))) ?_; (rintro v5 w5 ⟨hO5, hG5⟩; have HO5 := Lib.hid hO5; have HB5 := Lib.hid (below_own (w0 := w0) (B := w0.heap.size) (by ((repeat (first | exact Below.refl _ _ | (refine Below.drew ?_) | (refine Go.below_drewN ?_ _) | (refine Below.alloc ?_ (by first | (simp; done) | omega | (simp; omega)) _) | (refine Below.setCell ?_ (by first | (simp; done) | omega | (simp; omega)) _) | (refine Below.trans ?_ (Below.mono (by assumption) (by first | (simp; done) | omega | (simp; omega)))))); done)) (by exact HO4.out) hG5 (by first | omega | (simp; omega))); clear hO5 hG5)))
      all_goals
        go_wp2_with fail
        go_ret2
        exact wout_yes HR.out (by rw [← text_eq]; exact HO5.out) HB5.out
end Go.Proofs.YteghfinngilfgaaDoor.T
