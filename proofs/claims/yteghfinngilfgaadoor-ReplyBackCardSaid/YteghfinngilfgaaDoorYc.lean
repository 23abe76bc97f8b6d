import Derived.Deep.DeepCutAuto
import Derived.Laws.OwnMore
import Derived.OwnWalk
import Derived.Lib.AppendStr
import Derived.Lib.SliceRun
import Derived.Lib.SmallJoins
import Derived.IntWalk
import Derived.Lib.ItoaLen
import Derived.Deep.RegionLaw
import Derived.Deep.AppendLies
import Derived.Test.YteghfinngilfgaaDoorProg
import Derived.Test.YteghfinngilfgaaDoorMem
import Derived.Test.YteghfinngilfgaaDoorYb
import Derived.WalkKit
import Derived.Outline
import Derived.WalkLawsBesides
import Derived.Deep.QuietTactic
import Derived.BigQuiet
import Derived.Lib.Hide
import Derived.Handy
import Derived.Deep.RegionHeld3
import Derived.Deep.DrawnRows
import Derived.KernelRfl
import Derived.Great.Walk
import Derived.Test.YteghfinngilfgaaDoorOwn
namespace Go.Proofs.YteghfinngilfgaaDoor.T
open Go Go.RowKit Go.Sort Mem Own
set_option maxRecDepth 100000
set_option maxHeartbeats 1000000
set_option linter.unusedVariables false
set_option linter.unusedSimpArgs false

mutual
/-- Are two replies the same? -/
def sameB : T → T → Bool
  | .mk k z t l, .mk k' z' t' l' => decide (k = k') && decide (z = z') && (t.toList == t'.toList) && sameBs l l'
def sameBs : List T → List T → Bool
  | [], [] => true
  | x :: l, y :: l' => sameB x y && sameBs l l'
  | [], _ :: _ => false
  | _ :: _, [] => false
end
theorem sameBs_len : ∀ {l l' : List T}, sameBs l l' = true → l.length = l'.length
  | [], [], _ => rfl
  | x :: l, y :: l', h => by
    simp only [sameBs, Bool.and_eq_true] at h
    simp only [List.length_cons]
    rw [sameBs_len h.2]
  | [], _ :: _, h => by simp [sameBs] at h
  | _ :: _, [], h => by simp [sameBs] at h
theorem same_mk (x y : T) : sameB x y = (decide (x.k = y.k) && decide (x.z = y.z) && (x.t.toList == y.t.toList) && sameBs x.l y.l) := by
  cases x; cases y; rfl
theorem sames_false {l l' : List T} : ∀ (i : Nat) (h1 : i < l.length) (h2 : i < l'.length), sameB l[i] l'[i] = false → sameBs l l' = false := by
  induction l generalizing l' with
  | nil => intro i h1; simp at h1
  | cons x l ih =>
    intro i h1 h2 h
    cases l' with
    | nil => simp at h2
    | cons y l' =>
      simp only [sameBs]
      cases i with
      | zero => simp only [List.getElem_cons_zero] at h; rw [h]; rfl
      | succ i =>
        simp only [List.getElem_cons_succ] at h
        rw [ih i (by simpa using h1) (by simpa using h2) h, Bool.and_false]
theorem sames_len {l l' : List T} (h : l.length ≠ l'.length) : sameBs l l' = false := by
  cases hs : sameBs l l' with
  | false => rfl
  | true => exact absurd (sameBs_len hs) h
theorem sames_true {l l' : List T} (hl : l.length = l'.length) (h : ∀ (i : Nat) (h1 : i < l.length) (h2 : i < l'.length), sameB l[i] l'[i] = true) : sameBs l l' = true := by
  induction l generalizing l' with
  | nil => cases l' with | nil => rfl | cons y l' => simp at hl
  | cons x l ih =>
    cases l' with
    | nil => simp at hl
    | cons y l' =>
      simp only [sameBs]
      rw [show sameB x y = true from h 0 (by simp) (by simp), Bool.true_and]
      exact ih (by simpa using hl) (fun i h1 h2 => h (i + 1) (by simpa using h1) (by simpa using h2))
theorem same_self : ∀ (n : Nat) (x : T), x.sz ≤ n → sameB x x = true := by
  intro n
  induction n with
  | zero => intro x h; have := sz_pos x; omega
  | succ n ih =>
    intro x h
    rw [same_mk, sames_true rfl (fun i h1 h2 => ih _ (by have := sz_lt (List.getElem_mem h1 : x.l[i] ∈ x.l); omega))]
    simp
theorem same_refl (x : T) : sameB x x = true := same_self x.sz x (Nat.le_refl _)
theorem same_k {x y : T} (h : ¬ x.k = y.k) : sameB x y = false := by rw [same_mk]; simp [h]
theorem same_z {x y : T} (h : ¬ x.z = y.z) : sameB x y = false := by rw [same_mk]; simp [h]
theorem same_t {x y : T} (h : ¬ x.t.toList = y.t.toList) : sameB x y = false := by rw [same_mk]; simp [h]
theorem same_l {x y : T} (h1 : x.k = y.k) (h2 : x.z = y.z) (h3 : x.t.toList = y.t.toList) : sameB x y = sameBs x.l y.l := by rw [same_mk]; simp [h1, h2, h3]
/-- All lists of a reply have lengths that may be. -/
inductive Fit : T → Prop where
  | mk {k z : Int} {t : ByteArray} {l : List T} : l.length ≤ 1125899906842624 → (∀ y ∈ l, Fit y) → Fit (.mk k z t l)
theorem Fit.len {x : T} (h : Fit x) : x.l.length ≤ 1125899906842624 := by cases h; assumption
theorem Fit.mem {x y : T} (h : Fit x) (hy : y ∈ x.l) : Fit y := by cases h with | mk _ h => exact h y hy
/-- A row of replies at an address. -/
def RdA (w : World) (A : Option Addr) (l : List T) : Prop := l = [] ∨ ∃ b off, A = some ⟨b, off, none⟩ ∧ RdRow w b off l
theorem RdA.below {w w' : World} {A : Option Addr} {l : List T} (h : RdA w A l) (hb : Below w.heap.size w w') : RdA w' A l := by
  rcases h with h | ⟨b, off, e, h⟩
  · exact .inl h
  · exact .inr ⟨b, off, e, h.below hb⟩
theorem RdA.row {w : World} {A : Option Addr} {l : List T} (h : RdA w A l) (hl : 0 < l.length) : ∃ b off, A = some ⟨b, off, none⟩ ∧ RdRow w b off l := by
  rcases h with h | h
  · simp [h] at hl
  · exact h
theorem RdT.rda {w : World} {A : Option Addr} {x : T} (h : RdT w A x) : RdA w A x.l := by cases x; exact h
theorem RdA.rdt {w : World} {A : Option Addr} {k z : Int} {t : ByteArray} {l : List T} (h : RdA w A l) : RdT w A (.mk k z t l) := h
/-- slices.EqualFunc -/
theorem eqf_is (l l' : List T) (A B : Option Addr) (c d : Nat) (w : World) (ha : RdA w A l) (hb : RdA w B l') (hn : l.length ≤ 1125899906842624)
    (IH : ∀ (i : Nat) (h1 : i < l.length) (h2 : i < l'.length) (A' B' : Option Addr) (c' d' : Nat) (w' : World), RdT w' A' l[i] → RdT w' B' l'[i] → Calls Tryd.prog 15 #[tV l[i].k l[i].z l[i].t A' l[i].l.length c', tV l'[i].k l'[i].z l'[i].t B' l'[i].l.length d'] w' fun e w'' => e = .returned (.bool (sameB l[i] l'[i])) ∧ Below w'.heap.size w' w'') :
    Calls Tryd.prog 26 #[.slice A l.length c, .slice B l'.length d, .func (.func 15) #[] #[]] w fun e w' => e = .returned (.bool (sameBs l l')) ∧ Below w.heap.size w w' := by
  have HA := Lib.hid ha; have HB0 := Lib.hid hb; have HIH := Lib.hid IH
  have HSF := Lib.hid (fun i h1 h2 => sames_false (l := l) (l' := l') i h1 h2)
  have HSL := Lib.hid (fun h => sames_len (l := l) (l' := l') h)
  have HST := Lib.hid (fun h1 h2 => sames_true (l := l) (l' := l') h1 h2)
  clear ha hb IH
  generalize sameBs l l' = sb at HSF HSL HST ⊢
  obtain ⟨L, hL⟩ : ∃ L, L = l.length := ⟨_, rfl⟩
  obtain ⟨L', hL'⟩ : ∃ L', L' = l'.length := ⟨_, rfl⟩
  have HL := Lib.hid hL
  have HL' := Lib.hid hL'
  rw [← hL] at hn
  rw [← hL, ← hL']
  clear hL hL'
  by_cases hne : L = L'
  · subst hne
    go_enter Tryd.func26, Tryd.ntmps26
    go_wp2_with fail
    go_loopw [17] (fun s17 wr => ∃ i : Nat, i ≤ L ∧ s17 = .int .i64 i ∧ RowKit.Hid (∀ (j : Nat) (h1 : j < l.length) (h2 : j < l'.length), j < i → sameB l[j] l'[j] = true) ∧ RowKit.Hid (Below w.heap.size w wr)) (fun s17 _ => L - (intOf s17).toNat)
    case atStart => exact ⟨0, Nat.zero_le _, rfl, Lib.hid (fun j _ _ h => by omega), Lib.hid (Below.refl _ _)⟩
    case round =>
      obtain ⟨i, hiL, rfl, HP, HB⟩ := hrel
      by_cases hlt : i < L
      · have h1 := Lib.hid (show i < l.length by rw [← HL.out]; exact hlt)
        have h2 := Lib.hid (show i < l'.length by rw [← HL'.out]; exact hlt)
        obtain ⟨b, off, rfl, hrow⟩ := HA.out.row (Nat.zero_lt_of_lt h1.out)
        obtain ⟨b', off', rfl, hrow'⟩ := HB0.out.row (Nat.zero_lt_of_lt h2.out)
        obtain ⟨A1, c1, g0, g1, g2, g3, hx⟩ := (hrow.below HB.out).at h1.out
        obtain ⟨A2, c2, k0, k1, k2, k3, hy⟩ := (hrow'.below HB.out).at h2.out
        have HX := Lib.hid hx
        have HY := Lib.hid hy
        have HI := Lib.hid (HIH.out i h1.out h2.out)
        have HF := Lib.hid (HSF.out i h1.out h2.out)
        have HP1 := Lib.hid (fun (hs : sameB (l[i]'h1.out) (l'[i]'h2.out) = true) => (show ∀ (j : Nat) (h1 : j < l.length) (h2 : j < l'.length), j < i + 1 → sameB l[j] l'[j] = true by
          intro j hj1 hj2 hj
          rcases Nat.lt_succ_iff_lt_or_eq.1 hj with h | rfl
          · exact HP.out j hj1 hj2 h
          · exact hs))
        clear hrow hrow' hx hy
        generalize l[i]'h1.out = x at g0 g1 g2 g3 HX HI HF HP1
        generalize l'[i]'h2.out = y at k0 k1 k2 k3 HY HI HF HP1
        obtain ⟨N, hN⟩ : ∃ N, N = x.l.length := ⟨_, rfl⟩
        obtain ⟨N', hN'⟩ : ∃ N', N' = y.l.length := ⟨_, rfl⟩
        have HNQ := Lib.hid hN
        have HNQ' := Lib.hid hN'
        have HI2 := Lib.hid (show ∀ (A' B' : Option Addr) (c' d' : Nat) (w' : World), RdT w' A' x → RdT w' B' y → Calls Tryd.prog 15 #[tV x.k x.z x.t A' N c', tV y.k y.z y.t B' N' d'] w' fun e w'' => e = .returned (.bool (sameB x y)) ∧ Below w'.heap.size w' w'' by rw [hN, hN']; exact HI.out)
        rw [← hN] at g3
        rw [← hN'] at k3
        clear hN hN' HI
        generalize sameB x y = sxy at HI2 HF HP1
        go_upto_region 5 with fail
        go_cut [7, 8] (fun s7 s8 wx => ∃ b8 : Nat, s7 = .int .i64 i ∧ s8 = .pointer (some ⟨b8, 0, none⟩) ∧ RowKit.Hid (wx.heap[b8]? = some (.cells #[.int .i64 x.k, .int .i64 x.z, .string x.t, .slice A1 N c1] 24 (0, 0))) ∧ RowKit.Hid (Below wr.heap.size wr wx))
        case first =>
          go_wp2
          go_meet
          exact ⟨_, rfl, rfl, Lib.hid (heap_alloc_new wr _), Lib.hid ((Below.refl _ _).alloc (Nat.le_refl _) _)⟩
        case rest =>
          obtain ⟨b8, rfl, rfl, H8, HB8⟩ := hcut
          obtain ⟨w8, hw8⟩ : ∃ w8, w8 = wc := ⟨_, rfl⟩
          rw [← hw8] at H8 HB8 ⊢
          clear hw8
          have k0 := cell_below HB8.out k0
          have k1 := cell_below HB8.out k1
          have k2 := cell_below HB8.out k2
          have k3 := cell_below HB8.out k3
          clear g0 g1 g2 g3
          go_upto_region 6 with fail
          go_cut [9] (fun s9 wx => ∃ b9 : Nat, s9 = .pointer (some ⟨b9, 0, none⟩) ∧ RowKit.Hid (wx.heap[b9]? = some (.cells #[.int .i64 y.k, .int .i64 y.z, .string y.t, .slice A2 N' c2] 24 (0, 0))) ∧ RowKit.Hid (Below w8.heap.size w8 wx))
          case first =>
            go_wp2
            go_meet
            exact ⟨_, rfl, Lib.hid (heap_alloc_new w8 _), Lib.hid ((Below.refl _ _).alloc (Nat.le_refl _) _)⟩
          case rest =>
            obtain ⟨b9, rfl, H9, HB9⟩ := hcut
            obtain ⟨x0, x1, x2, x3⟩ := cells4 (keep_blk HB9.out H8.out)
            obtain ⟨y0, y1, y2, y3⟩ := cells4 H9.out
            have HBa := Lib.hid (HB8.out.trans (HB9.out.mono HB8.out.size))
            have HBt := Lib.hid (HB.out.trans (HBa.out.mono HB.out.size))
            clear k0 k1 k2 k3
            cases sxy with
            | true =>
              go_wp2_with (go_at_call 15; refine Calls.mono (HI2.out A1 A2 c1 c2 _ (HX.out.below HBa.out) (HY.out.below HBa.out)) ?_; (rintro e w2 ⟨rfl, hb2⟩; have HB2 := Lib.hid (HBt.out.trans (hb2.mono HBt.out.size)); clear hb2))
              exact ⟨⟨i + 1, by omega, by go_num, Lib.hid (HP1.out (by trivial)), HB2⟩, by simp [intOf]; omega⟩
            | false =>
              have hsb := HF.out rfl
              subst hsb
              go_wp2_with (go_at_call 15; refine Calls.mono (HI2.out A1 A2 c1 c2 _ (HX.out.below HBa.out) (HY.out.below HBa.out)) ?_; (rintro e w2 ⟨rfl, hb2⟩; have HB2 := Lib.hid (HBt.out.trans (hb2.mono HBt.out.size)); clear hb2))
              go_ret
              exact ⟨rfl, HB2.out⟩
      · have hsb : sb = true := HST.out (by rw [← HL.out, ← HL'.out]) (fun j h1 h2 => HP.out j h1 h2 (by have := HL.out; omega))
        subst hsb
        go_wp2
        go_ret
        exact ⟨rfl, HB.out⟩
  · have hsb : sb = false := HSL.out (by rw [← HL.out, ← HL'.out]; exact hne)
    subst hsb
    have hneb : ((L : Int) != (L' : Int)) = true := by simp; omega
    have hned : decide (L = L') = false := by simpa using hne
    go_enter Tryd.func26, Tryd.ntmps26
    go_wp2
    go_ret
    exact ⟨rfl, Below.refl _ _⟩
end Go.Proofs.YteghfinngilfgaaDoor.T
