import Derived.Deep.DeepCutAuto
import Derived.Laws.OwnMore
import Derived.OwnWalk
import Derived.Lib.AppendStr
import Derived.Lib.SliceRun
import Derived.Lib.SmallJoins
import Derived.IntWalk
import Derived.Lib.ItoaLen
import Derived.WalkMore
import Derived.Lib.OthersKept
import Derived.Laws.Runes
import Derived.Deep.LoopGhost
import Derived.Deep.RegionLaw
import Derived.Deep.AppendLies
import Derived.Test.YteghfinngilfgaaDoorProg
import Derived.Test.YteghfinngilfgaaDoorMem
import Derived.Test.YteghfinngilfgaaDoorYl
import Derived.Test.YteghfinngilfgaaDoorZr
import Derived.WalkKit
import Derived.Outline
import Derived.WalkLawsBesides
import Derived.Deep.QuietTactic
import Derived.BigQuiet
import Derived.Lib.Hide
import Derived.Handy
import Derived.Deep.RegionHeld3
import Derived.Deep.DrawnRows
import Derived.KernelRfl
import Derived.Great.Walk
import Derived.Test.YteghfinngilfgaaDoorOwn
namespace Go.Proofs.YteghfinngilfgaaDoor.T
open Go Go.RowKit Go.Sort Mem Own
set_option maxRecDepth 100000
set_option maxHeartbeats 1000000
set_option linter.unusedVariables false
set_option linter.unusedSimpArgs false

set_option maxHeartbeats 2000000 in
theorem write_fault (x : T) (d : Nat) (A : Option Addr) (c : Nat) (v : Value) (m : Nat) (bs : List UInt8) (w0 w : World) (hk : x.k = 2) (hbr : bareB x = true) (ht : x.t.size < 4294967281) (hb : Below w0.heap.size w0 w) (hO : w.ownsRow w0.heap.size 5 1 v m (bcs bs)) (hm : m + x.t.size + 64 ≤ 140737488355328) :
    Calls Tryd.prog 23 #[v, tV x.k x.z x.t A x.l.length c, .int .i64 d] w (WOut (enc d x) bs w0.heap.size w0) := by
  have HP := Lib.hid (fun wx => pbare_is x A c wx)
  rw [hbr] at HP
  have HE := Lib.hid (enc_2 (d := d) hbr hk)
  have HW := Lib.hid hb
  have HOW := Lib.hid hO
  have hpl := plain_has x.t
  generalize enc d x = r at HE ⊢
  clear hb hO hbr
  have HN := Lib.hid (new1 w #[.int .i64 x.k, .int .i64 x.z, .string x.t, .slice A x.l.length c] 24)
  generalize x.k = k at hk HN HP ⊢
  subst hk
  generalize x.z = z at HN HP ⊢
  generalize x.t = t at HN HP HE ht hm hpl ⊢
  generalize x.l.length = n at HN HP ⊢
  have HPL := Lib.hid hpl
  clear hpl
  have HX0 := Lib.hid HN.out.1
  obtain ⟨x0, x1, x2, x3⟩ := cells4 HX0.out
  have hzw := HW.out.size
  cases hcr : hasCR t with
  | true =>
    have hr : r = none := by rw [HE.out, if_neg (by rw [HPL.out, hcr]; simp)]
    subst hr
    have HCR := Lib.hid hcr
    clear hcr
    go_enter Tryd.func23, Tryd.ntmps23
    go_wp2_with (first
      | (go_at_call 27; refine Calls.mono (HP.out _) ?_; (rintro e w1 ⟨rfl, hb1⟩; have HX1 := Lib.hid (keep_blk hb1 HX0.out); have HB1 := Lib.hid (HW.out.trans ((HN.out.2.trans (hb1.mono HN.out.2.size)).mono hzw)); clear x0 x1 x2 x3 hb1; obtain ⟨x0, x1, x2, x3⟩ := cells4 HX1.out))
      | (go_at_call 28; refine Calls.mono (cany_is t _ ht) ?_; (rintro e w2 ⟨rfl, hb2⟩; rw [HCR.out]; have HB2 := Lib.hid (HB1.out.trans (hb2.mono HB1.out.size)); clear hb2)))
    go_ret2
    exact wout_no rfl HB2.out
  | false =>
    have HCR := Lib.hid hcr
    clear hcr
    by_cases h509 : 509 < t.size
    · have h509b : decide ((509 : Int) < (t.size : Int)) = true := by simp; omega
      have hr : r = none := by rw [HE.out, if_neg (by rw [HPL.out]; simp; omega)]
      subst hr
      go_enter Tryd.func23, Tryd.ntmps23
      go_wp2_with (first
        | (go_at_call 27; refine Calls.mono (HP.out _) ?_; (rintro e w1 ⟨rfl, hb1⟩; have HX1 := Lib.hid (keep_blk hb1 HX0.out); have HB1 := Lib.hid (HW.out.trans ((HN.out.2.trans (hb1.mono HN.out.2.size)).mono hzw)); clear x0 x1 x2 x3 hb1; obtain ⟨x0, x1, x2, x3⟩ := cells4 HX1.out))
        | (go_at_call 28; refine Calls.mono (cany_is t _ ht) ?_; (rintro e w2 ⟨rfl, hb2⟩; rw [HCR.out]; have HB2 := Lib.hid (HB1.out.trans (hb2.mono HB1.out.size)); have HX2 := Lib.hid (keep_blk hb2 HX1.out); clear x0 x1 x2 x3 hb2; obtain ⟨x0, x1, x2, x3⟩ := cells4 HX2.out)))
      go_ret2
      exact wout_no rfl HB2.out
    · have h509b : decide ((509 : Int) < (t.size : Int)) = false := by simp; omega
      have hr : r = some (45 :: (t.toList ++ crlf)) := by rw [HE.out, if_pos (by rw [HPL.out, HCR.out]; simp; omega)]
      have HR := Lib.hid hr
      clear hr h509
      go_enter Tryd.func23, Tryd.ntmps23
      go_wp2_with (first
        | (go_at_call 27; refine Calls.mono (HP.out _) ?_; (rintro e w1 ⟨rfl, hb1⟩; have HX1 := Lib.hid (keep_blk hb1 HX0.out); have HB1 := Lib.hid (HW.out.trans ((HN.out.2.trans (hb1.mono HN.out.2.size)).mono hzw)); have HO1 := Lib.hid (own_bl HOW.out (HN.out.2.trans (hb1.mono HN.out.2.size))); clear x0 x1 x2 x3 hb1; obtain ⟨x0, x1, x2, x3⟩ := cells4 HX1.out))
        | (go_at_call 28; refine Calls.mono (cany_is t _ ht) ?_; (rintro e w2 ⟨rfl, hb2⟩; rw [HCR.out]; have HB2 := Lib.hid (HB1.out.trans (hb2.mono HB1.out.size)); have HX2 := Lib.hid (keep_blk hb2 HX1.out); have HO2 := Lib.hid (own_bl HO1.out hb2); clear x0 x1 x2 x3 hb2; obtain ⟨x0, x1, x2, x3⟩ := cells4 HX2.out)))
      have hz2' := HB2.out.size
      have hw0 : w0.heap.size ≤ w2.heap.size := hz2'
      have hB2 := HB2.out
      have hk2 := lt_of_blk HX2.out
      go_region_law
        (first
          | (refine Own.step_append_run rfl (.tmp 39) (.tmp 41) 42 42 rfl v (.slice (some ⟨w2.heap.size, 0, none⟩) 1 1) rfl rfl _ (app_byte (x := 45) (B := w0.heap.size) rfl (by exact (HO2.out.alloc _)) (by exact (heap_alloc_new w2 _)) (by omega) (by first | omega | (simp; omega))) ?_; (rintro v3 w3 ⟨hO3, hG3⟩; have HO3 := Lib.hid hO3; have HX3 := Lib.hid (typ_stay (by exact (HO2.out.alloc _)) hG3 (by exact (blk_new HX2.out _)) (by decide)); have HB3 := Lib.hid (below_own (w0 := w0) (B := w0.heap.size) (by ((repeat (first | exact Below.refl _ _ | (refine Below.drew ?_) | (refine Go.below_drewN ?_ _) | (refine Below.alloc ?_ (by first | (simp; done) | omega | (simp; omega)) _) | (refine Below.setCell ?_ (by first | (simp; done) | omega | (simp; omega)) _) | (refine Below.trans ?_ (Below.mono (by assumption) (by first | (simp; done) | omega | (simp; omega)))))); done)) (by exact (HO2.out.alloc _)) hG3 (by first | omega | (simp; omega))); have hz3 := HB3.out.size; have hB3 := HB3.out; clear hO3 hG3 x0 x1 x2 x3; obtain ⟨x0, x1, x2, x3⟩ := cells4 HX3.out))
          | (refine Own.step_append_run rfl (.tmp 42) (.tmp 44) 42 9 rfl v3 (.string t) rfl rfl _ (app_str (B := w0.heap.size) t (by exact HO3.out) (by omega) (by first | omega | (simp; omega))) ?_; (rintro v4 w4 ⟨hO4, hG4⟩; have HO4 := Lib.hid hO4; have HB4 := Lib.hid (below_own (w0 := w0) (B := w0.heap.size) (by ((repeat (first | exact Below.refl _ _ | (refine Below.drew ?_) | (refine Go.below_drewN ?_ _) | (refine Below.alloc ?_ (by first | (simp; done) | omega | (simp; omega)) _) | (refine Below.setCell ?_ (by first | (simp; done) | omega | (simp; omega)) _) | (refine Below.trans ?_ (Below.mono (by assumption) (by first | (simp; done) | omega | (simp; omega)))))); done)) (by exact HO3.out) hG4 (by first | omega | (simp; omega))); have hz4 := HB4.out.size; have hB4 := HB4.out; clear hO4 hG4))
          | (refine Own.step_append_run rfl (.tmp 45) (.const (.string ⟨#[13, 10]⟩)) 42 9 rfl v4 (.string ⟨#[13, 10]⟩) rfl rfl _ (app_str (B := w0.heap.size) ⟨#[13, 10]⟩ (by exact HO4.out) (by show m + 1 + t.size + 2 ≤ _; omega) (by first | omega | (simp; omega))) ?_; (rintro v5 w5 ⟨hO5, hG5⟩; have HO5 := Lib.hid hO5; have HB5 := Lib.hid (below_own (w0 := w0) (B := w0.heap.size) (by ((repeat (first | exact Below.refl _ _ | (refine Below.drew ?_) | (refine Go.below_drewN ?_ _) | (refine Below.alloc ?_ (by first | (simp; done) | omega | (simp; omega)) _) | (refine Below.setCell ?_ (by first | (simp; done) | omega | (simp; omega)) _) | (refine Below.trans ?_ (Below.mono (by assumption) (by first | (simp; done) | omega | (simp; omega)))))); done)) (by exact HO4.out) hG5 (by first | omega | (simp; omega))); clear hO5 hG5)))
      all_goals
        go_wp2_with fail
        go_ret2
        exact wout_yes HR.out (by rw [← text_eq]; exact HO5.out) HB5.out
/-- Replies that may be written. -/
inductive Wf : T → Prop where
  | mk {k z : Int} {t : ByteArray} {l : List T} : -9223372036854775808 ≤ z → z ≤ 9223372036854775807 → t.size ≤ 1000000 → l.length ≤ 1000000 → (∀ y ∈ l, Wf y) → Wf (.mk k z t l)
theorem Wf.z {x : T} (h : Wf x) : -9223372036854775808 ≤ x.z ∧ x.z ≤ 9223372036854775807 := by cases h with | mk h1 h2 _ _ _ => exact ⟨h1, h2⟩
theorem Wf.t {x : T} (h : Wf x) : x.t.size ≤ 1000000 := by cases h; assumption
theorem Wf.len {x : T} (h : Wf x) : x.l.length ≤ 1000000 := by cases h; assumption
theorem Wf.mem {x y : T} (h : Wf x) (hy : y ∈ x.l) : Wf y := by cases h with | mk _ _ _ _ h => exact h y hy
theorem enc_wt_aux : ∀ n, (∀ (x : T) (d : Nat) (r : List UInt8), x.sz ≤ n → Wf x → enc d x = some r → r.length ≤ wt d x) ∧ (∀ (l : List T) (d : Nat) (r : List UInt8), szs l ≤ n → (∀ y ∈ l, Wf y) → encs d l = some r → r.length ≤ wts d l) := by
  intro n
  induction n with
  | zero =>
    refine ⟨fun x d r h => by have := sz_pos x; omega, fun l => ?_⟩
    cases l with
    | nil => intro d r _ _ h; simp [encs] at h; subst h; simp
    | cons x l => intro d r h; simp only [szs] at h; have := sz_pos x; omega
  | succ n ih =>
    have h1 : ∀ (x : T) (d : Nat) (r : List UInt8), x.sz ≤ n + 1 → Wf x → enc d x = some r → r.length ≤ wt d x := by
      intro x d r hx hw he
      cases hb : bareB x with
      | false => rw [enc_bare hb] at he; cases he
      | true =>
        rw [wt_mk]
        have hl3 : crlf.length = 2 := rfl
        by_cases k1 : x.k = 1
        · rw [enc_1 hb k1] at he; split at he
          · injection he with he; subst he; simp only [List.length_cons, List.length_append, toList_len, hl3]; omega
          · cases he
        by_cases k2 : x.k = 2
        · rw [enc_2 hb k2] at he; split at he
          · injection he with he; subst he; simp only [List.length_cons, List.length_append, toList_len, hl3]; omega
          · cases he
        by_cases k3 : x.k = 3
        · rw [enc_3 hb k3] at he
          injection he with he; subst he; simp only [List.length_cons, List.length_append, hl3]
          have := Lib.itoa_length_le x.z hw.z.1 hw.z.2; omega
        by_cases k4 : x.k = 4
        · rw [enc_4 hb k4] at he; split at he
          · injection he with he; subst he; simp only [List.length_cons, List.length_append, toList_len, hl3]
            have := Lib.itoa_length_le (x.t.size : Int) (by omega) (by omega); omega
          · cases he
        by_cases k5 : x.k = 5
        · rw [enc_5 hb k5] at he; injection he with he; subst he; simp; omega
        by_cases k6 : x.k = 6
        · rw [enc_6 hb k6] at he; split at he
          · rename_i hc
            obtain ⟨r', h2, rfl⟩ := Option.map_eq_some_iff.1 he
            have := ih.2 x.l (d + 1) r' (by rw [sz_mk] at hx; omega) (fun y hy => hw.mem hy) h2
            rw [if_neg (by omega)]
            simp only [List.length_cons, List.length_append, hl3]
            have := Lib.itoa_length_le (x.l.length : Int) (by omega) (by have := hw.len; omega); omega
          · cases he
        rw [enc_no k1 k2 k3 k4 k5 k6] at he; cases he
    refine ⟨h1, fun l => ?_⟩
    induction l with
    | nil => intro d r _ _ h; simp [encs] at h; subst h; simp
    | cons x l ihl =>
      intro d r hs hw he
      simp only [szs] at hs
      simp only [encs] at he
      obtain ⟨a, h2, h3⟩ := Option.bind_eq_some_iff.1 he
      obtain ⟨b, h4, rfl⟩ := Option.map_eq_some_iff.1 h3
      have e1 := h1 x d a (by omega) (hw x (List.mem_cons_self ..)) h2
      have e2 := ihl d b (by omega) (fun y hy => hw y (List.mem_cons_of_mem _ hy)) h4
      simp only [wts, List.length_append]
      omega
theorem encs_wt {l : List T} {d : Nat} {r : List UInt8} (hw : ∀ y ∈ l, Wf y) (h : encs d l = some r) : r.length ≤ wts d l := (enc_wt_aux (szs l)).2 l d r (Nat.le_refl _) hw h
theorem wout_none {bs : List UInt8} {B : Nat} {w0 w' : World} {e : Ending} (h : WOut none bs B w0 e w') : e = .returned (.tuple #[.slice none 0 0, .bool false]) ∧ Below B w0 w' := by
  obtain ⟨⟨-, h1⟩ | ⟨bytes, v', m', h1, -, -⟩, hb⟩ := h
  · exact ⟨h1, hb⟩
  · cases h1
theorem wout_some {a bs : List UInt8} {B : Nat} {w0 w' : World} {e : Ending} (h : WOut (some a) bs B w0 e w') : ∃ v' m', e = .returned (.tuple #[v', .bool true]) ∧ w'.ownsRow B 5 1 v' m' (bcs (bs ++ a)) ∧ Below B w0 w' := by
  obtain ⟨⟨h1, -⟩ | ⟨bytes, v', m', h1, h2, h3⟩, hb⟩ := h
  · cases h1
  · injection h1 with h1; subst h1; exact ⟨v', m', h2, h3, hb⟩
def WP (n : Nat) : Prop := ∀ (x : T) (d : Nat) (A : Option Addr) (c : Nat) (v : Value) (m : Nat) (bs : List UInt8) (w0 w : World), x.sz ≤ n → RdT w0 A x → Wf x → d ≤ 4 → Below w0.heap.size w0 w → w.ownsRow w0.heap.size 5 1 v m (bcs bs) → m + wt d x ≤ 100000000000000 → Tab w0 →
  Calls Tryd.prog 23 #[v, tV x.k x.z x.t A x.l.length c, .int .i64 d] w (WOut (enc d x) bs w0.heap.size w0)
theorem star_eq (bs : List UInt8) (n : Int) : bs ++ (⟨#[42]⟩ ++ dec n ++ ⟨#[13, 10]⟩ : ByteArray).toList = bs ++ (42 :: (Lib.itoa n ++ crlf)) := by
  rw [toList_app, toList_app, star_list, crlf_list, dec_list]; simp
set_option maxHeartbeats 4000000 in
theorem write_many (N : Nat) (ih : WP N) (x : T) (d : Nat) (A : Option Addr) (c : Nat) (v : Value) (m : Nat) (bs : List UInt8) (w0 w : World) (hs : x.sz ≤ N + 1) (hr : RdT w0 A x) (hwf : Wf x) (hd : d ≤ 4) (hk : x.k = 6) (hbr : bareB x = true) (hT : Tab w0) (hb : Below w0.heap.size w0 w) (hO : w.ownsRow w0.heap.size 5 1 v m (bcs bs)) (hm : m + wt d x ≤ 100000000000000) :
    Calls Tryd.prog 23 #[v, tV x.k x.z x.t A x.l.length c, .int .i64 d] w (WOut (enc d x) bs w0.heap.size w0) := by
  have HP := Lib.hid (fun wx => pbare_is x A c wx)
  rw [hbr] at HP
  have HE := Lib.hid (enc_6 (d := d) hbr hk)
  have HW := Lib.hid hb
  have HOW := Lib.hid hO
  have HT := Lib.hid hT
  have HR := Lib.hid hr.rda
  have HLF := Lib.hid hwf.len
  have HWT := Lib.hid (wt_mk d x)
  have HMW := Lib.hid (fun (i : Nat) (r : List UInt8) (h : encs (d + 1) (x.l.take i) = some r) => encs_wt (fun y hy => hwf.mem (List.mem_of_mem_take hy)) h)
  have HI := Lib.hid (fun (i : Nat) (hi : i < x.l.length) (A' : Option Addr) (c' : Nat) (v' : Value) (m' : Nat) (bs' : List UInt8) (w' : World) (hr' : RdT w0 A' x.l[i]) (hd' : d + 1 ≤ 4) (hb' : Below w0.heap.size w0 w') (ho' : w'.ownsRow w0.heap.size 5 1 v' m' (bcs bs')) (hm' : m' + wt (d + 1) x.l[i] ≤ 100000000000000) => (show Calls Tryd.prog 23 #[v', tV x.l[i].k x.l[i].z x.l[i].t A' x.l[i].l.length c', .int .i64 ((d : Int) + 1)] w' (WOut (enc (d + 1) x.l[i]) bs' w0.heap.size w0) from ih (x.l[i]) (d + 1) A' c' v' m' bs' w0 w' (by have := sz_lt (List.getElem_mem hi : x.l[i] ∈ x.l); omega) hr' (hwf.mem (List.getElem_mem hi)) hd' hb' ho' hm' hT))
  generalize enc d x = r at HE ⊢
  clear hb hO hbr hT hr hs ih hwf
  have HN := Lib.hid (new1 w #[.int .i64 x.k, .int .i64 x.z, .string x.t, .slice A x.l.length c] 24)
  generalize x.k = k at hk HN HP ⊢
  subst hk
  generalize x.z = z at HN HP ⊢
  generalize x.t = t at HN HP HWT ⊢
  generalize x.l = l at HN HP HE HR HLF HI HWT HMW ⊢
  obtain ⟨L, hL⟩ : ∃ L, L = l.length := ⟨_, rfl⟩
  have HLQ := Lib.hid hL
  have hLF : L ≤ 1000000 := by rw [hL]; exact HLF.out
  rw [← hL] at HN HP ⊢
  clear hL
  have HX0 := Lib.hid HN.out.1
  obtain ⟨x0, x1, x2, x3⟩ := cells4 HX0.out
  have hzw := HW.out.size
  by_cases h1 : 1024 < L
  · have hr : r = none := by rw [HE.out, if_neg (by rw [← HLQ.out]; omega)]
    subst hr
    have h1b : decide ((1024 : Int) < (L : Int)) = true := by simp; omega
    go_enter Tryd.func23, Tryd.ntmps23
    go_wp2_with ((go_at_call 27; refine Calls.mono (HP.out _) ?_; (rintro e w1 ⟨rfl, hb1⟩; have HX1 := Lib.hid (keep_blk hb1 HX0.out); have HB1 := Lib.hid (HW.out.trans ((HN.out.2.trans (hb1.mono HN.out.2.size)).mono hzw)); have HO1 := Lib.hid (own_bl HOW.out (HN.out.2.trans (hb1.mono HN.out.2.size))); clear x0 x1 x2 x3 hb1; obtain ⟨x0, x1, x2, x3⟩ := cells4 HX1.out)))
    go_ret2
    exact wout_no rfl HB1.out
  have h1b : decide ((1024 : Int) < (L : Int)) = false := by simp; omega
  by_cases h4 : d = 4
  · have hr : r = none := by rw [HE.out, if_neg (by omega)]
    subst hr h4
    go_enter Tryd.func23, Tryd.ntmps23
    go_wp2_with ((go_at_call 27; refine Calls.mono (HP.out _) ?_; (rintro e w1 ⟨rfl, hb1⟩; have HX1 := Lib.hid (keep_blk hb1 HX0.out); have HB1 := Lib.hid (HW.out.trans ((HN.out.2.trans (hb1.mono HN.out.2.size)).mono hzw)); have HO1 := Lib.hid (own_bl HOW.out (HN.out.2.trans (hb1.mono HN.out.2.size))); clear x0 x1 x2 x3 hb1; obtain ⟨x0, x1, x2, x3⟩ := cells4 HX1.out)))
    go_ret2
    exact wout_no rfl HB1.out
  have h4b : ((d : Int) == 4) = false := by simp; omega
  have hd3 : d ≤ 3 := by omega
  have HE2 := Lib.hid (show r = (encs (d + 1) l).map (fun r => 42 :: (Lib.itoa (l.length : Int) ++ (crlf ++ r))) by rw [HE.out, if_pos ⟨by rw [← HLQ.out]; omega, by omega⟩])
  have HWT2 := Lib.hid (show wt d x = 64 + t.size + wts (d + 1) l by rw [HWT.out, if_neg (by omega)])
  have hmm : m + 64 + wts (d + 1) l ≤ 100000000000000 := by have := HWT2.out; omega
  have HMM := Lib.hid hmm
  have hm64 : m ≤ 99999999999936 := by omega
  clear h4 h1 hm hmm HWT HE
  have hds := dec_size (L : Int) (by omega) (by omega)
  have hss : (⟨#[42]⟩ ++ dec (L : Int) ++ ⟨#[13, 10]⟩ : ByteArray).size ≤ 24 := by
    simp only [ByteArray.size_append]
    show 1 + (dec (L : Int)).size + 2 ≤ _
    omega
  have hc1 : ¬ 9223372036854775807 < 1 + (dec (L : Int)).size := by omega
  have hc2 : ¬ 9223372036854775807 < 1 + (dec (L : Int)).size + 2 := by omega
  go_enter Tryd.func23, Tryd.ntmps23
  go_wp2_with (first
    | (go_at_call 27; refine Calls.mono (HP.out _) ?_; (rintro e w1 ⟨rfl, hb1⟩; have HX1 := Lib.hid (keep_blk hb1 HX0.out); have HB1 := Lib.hid (HW.out.trans ((HN.out.2.trans (hb1.mono HN.out.2.size)).mono hzw)); have HO1 := Lib.hid (own_bl HOW.out (HN.out.2.trans (hb1.mono HN.out.2.size))); clear x0 x1 x2 x3 hb1; obtain ⟨x0, x1, x2, x3⟩ := cells4 HX1.out))
    | (go_at_call 29; refine Calls.mono (itoa_is (L : Int) _ (by omega) (by omega) (HT.out.keep HB1.out)) ?_; (rintro e w7 ⟨rfl, hb7⟩; have HB7 := Lib.hid (HB1.out.trans (hb7.mono HB1.out.size)); have HX7 := Lib.hid (keep_blk hb7 HX1.out); have HO7 := Lib.hid (own_bl HO1.out hb7); clear x0 x1 x2 x3 hb7; obtain ⟨x0, x1, x2, x3⟩ := cells4 HX7.out))
    | (at_builtin; refine Own.wpList_append_ex rfl (.tmp 81) (.tmp 87) 42 9 rfl v (.string (⟨#[42]⟩ ++ dec (L : Int) ++ ⟨#[13, 10]⟩)) rfl rfl _ (app_str (B := w0.heap.size) _ HO7.out (by omega) HB7.out.size) ?_; (rintro v8 w8 ⟨hO8, hG8⟩; rw [star_eq] at hO8; have HO8 := Lib.hid hO8; have HB8 := Lib.hid (below_own (w0 := w0) (B := w0.heap.size) HB7.out HO7.out hG8 HB7.out.size); have HX8 := Lib.hid (typ_stay HO7.out hG8 HX7.out (by decide)); clear hO8 hG8 x0 x1 x2 x3; obtain ⟨x0, x1, x2, x3⟩ := cells4 HX8.out)))
  have HS24 := Lib.hid (show (42 :: (Lib.itoa (L : Int) ++ crlf)).length ≤ 24 by
    simp only [List.length_cons, List.length_append]
    have := Lib.itoa_length_le (L : Int) (by omega) (by omega)
    show (Lib.itoa (L : Int)).length + 2 + 1 ≤ 24
    omega)
  have HBL := Lib.hid (show bs.length = m by have := HOW.out.1; rw [bcs_len] at this; omega)
  go_loopw [0, 92] (fun s0 s92 wr => ∃ (v0 : Value) (i mi : Nat) (ri : List UInt8), v0 = s0 ∧ i ≤ L ∧ s92 = .int .i64 i ∧ RowKit.Hid (encs (d + 1) (l.take i) = some ri) ∧ RowKit.Hid (wr.ownsRow w0.heap.size 5 1 v0 mi (bcs (bs ++ (42 :: (Lib.itoa (L : Int) ++ crlf)) ++ ri))) ∧ RowKit.Hid (Below w0.heap.size w0 wr)) (fun _ s92 _ => L - (intOf s92).toNat)
  case atStart => exact ⟨v8, 0, _, [], rfl, Nat.zero_le _, rfl, Lib.hid (by simp [encs]), Lib.hid (by rw [List.append_nil]; exact HO8.out), HB8⟩
  case round =>
    obtain ⟨v0, i, mi, ri, rfl, hiL, rfl, HEN, HOr, HBr⟩ := hrel
    have hzr := HBr.out.size
    by_cases hlt : i < L
    · have hlt2 := Lib.hid (show i < l.length by rw [← HLQ.out]; exact hlt)
      obtain ⟨b, off, rfl, hrow⟩ := HR.out.row (Nat.zero_lt_of_lt hlt2.out)
      obtain ⟨A', c', q0, q1, q2, q3, hx⟩ := hrow.at hlt2.out
      have HXY := Lib.hid hx
      have g0 := cell_below HBr.out q0
      have g1 := cell_below HBr.out q1
      have g2 := cell_below HBr.out q2
      have g3 := cell_below HBr.out q3
      have HIi := Lib.hid (HI.out i hlt2.out)
      have HTK := Lib.hid (fun a h => encs_take (d := d + 1) (r := ri) (a := a) hlt2.out HEN.out h)
      have HNO := Lib.hid (fun h => encs_none (d := d + 1) hlt2.out h)
      have HBD := Lib.hid (show mi + wt (d + 1) (l[i]'hlt2.out) ≤ 100000000000000 by
        have e1 := HOr.out.1
        rw [bcs_len, List.length_append, List.length_append] at e1
        have e2 := HMW.out i ri HEN.out
        have e3 := wts_take (d := d + 1) hlt2.out
        have e4 := HS24.out
        have e5 := HMM.out
        have e6 := HBL.out
        omega)
      clear q0 q1 q2 q3 hx hrow
      generalize l[i]'hlt2.out = y at g0 g1 g2 g3 HXY HIi HTK HNO HBD
      obtain ⟨M, hM⟩ : ∃ M, M = y.l.length := ⟨_, rfl⟩
      have HI2 := Lib.hid (show ∀ (A' : Option Addr) (c' : Nat) (v' : Value) (m' : Nat) (bs' : List UInt8) (w' : World), RdT w0 A' y → Below w0.heap.size w0 w' → w'.ownsRow w0.heap.size 5 1 v' m' (bcs bs') → m' + wt (d + 1) y ≤ 100000000000000 → Calls Tryd.prog 23 #[v', tV y.k y.z y.t A' M c', .int .i64 ((d : Int) + 1)] w' (WOut (enc (d + 1) y) bs' w0.heap.size w0) by rw [hM]; exact fun A' c' v' m' bs' w' h1 h2 h3 h4 => HIi.out A' c' v' m' bs' w' h1 (by omega) h2 h3 h4)
      rw [← hM] at g3
      clear hM HIi
      go_upto_region 25 with fail
      go_cut [10] (fun s10 wx => ∃ b10 : Nat, s10 = .pointer (some ⟨b10, 0, none⟩) ∧ RowKit.Hid (wx.heap[b10]? = some (.cells #[.int .i64 y.k, .int .i64 y.z, .string y.t, .slice A' M c'] 24 (0, 0))) ∧ RowKit.Hid (wx.ownsRow w0.heap.size 5 1 v0 mi (bcs (bs ++ (42 :: (Lib.itoa (L : Int) ++ crlf)) ++ ri))) ∧ RowKit.Hid (Below w0.heap.size w0 wx))
      case first =>
        go_wp2
        go_meet
        exact ⟨_, rfl, Lib.hid (heap_alloc_new wr _), Lib.hid (HOr.out.alloc _), Lib.hid (HBr.out.alloc hzr _)⟩
      case rest =>
        obtain ⟨b10, rfl, HX10, HO10, HB10⟩ := hcut
        obtain ⟨y0, y1, y2, y3⟩ := cells4 HX10.out
        clear g0 g1 g2 g3
        obtain ⟨oy, hoy⟩ : ∃ oy, enc (d + 1) y = oy := ⟨_, rfl⟩
        rw [hoy] at HI2 HTK HNO
        clear hoy
        cases oy with
        | none =>
          have hr : r = none := by rw [HE2.out, HNO.out rfl]; rfl
          subst hr
          go_wp2_with ((go_at_call 23; refine Calls.mono ((HI2.out A' c' v0 mi _ _ HXY.out HB10.out HO10.out HBD.out).mono (fun e w' h => wout_none h)) ?_; (rintro e w11 ⟨rfl, hb11⟩; have HB11 := Lib.hid hb11; clear hb11)))
          go_ret2
          exact wout_no rfl HB11.out
        | some a =>
          go_wp2_with ((go_at_call 23; refine Calls.mono ((HI2.out A' c' v0 mi _ _ HXY.out HB10.out HO10.out HBD.out).mono (fun e w' h => wout_some h)) ?_; (rintro e w11 ⟨v', m', rfl, ho11, hb11⟩; have HB11 := Lib.hid hb11; have HO11 := Lib.hid ho11; clear hb11 ho11)))
          refine ⟨⟨v', i + 1, m', ri ++ a, rfl, by omega, by go_num, Lib.hid (HTK.out a rfl), Lib.hid ?_, HB11⟩, by simp [intOf]; omega⟩
          rw [← List.append_assoc]
          exact HO11.out
    · have hen : encs (d + 1) l = some ri := by have := HEN.out; rw [List.take_of_length_le (by rw [← HLQ.out]; omega)] at this; exact this
      have HR2 := Lib.hid (show r = some (42 :: (Lib.itoa (L : Int) ++ (crlf ++ ri))) by rw [HE2.out, hen, ← HLQ.out]; rfl)
      clear hen
      go_wp2
      go_ret2
      refine wout_yes HR2.out (m' := mi) ?_ HBr.out
      have := HOr.out
      simpa using this
end Go.Proofs.YteghfinngilfgaaDoor.T
