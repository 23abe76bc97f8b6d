import Derived.Deep.DeepCutAuto
import Derived.Laws.OwnMore
import Derived.OwnWalk
import Derived.Lib.AppendStr
import Derived.Lib.SliceRun
import Derived.Lib.SmallJoins
import Derived.IntWalk
import Derived.WalkMore
import Derived.Lib.OthersKept
import Derived.Deep.LoopGhost
import Derived.Deep.RegionLaw
import Derived.Deep.AppendLies
import Derived.Test.YtmflalnajinejaaProg
import Derived.Test.YtmflalnajinejaaMem
import Derived.Test.YtmflalnajinejaaBlk
import Derived.Test.YtmflalnajinejaaAp
import Derived.Test.YtmflalnajinejaaKd
import Derived.WalkKit
import Derived.Outline
import Derived.WalkLawsBesides
import Derived.Deep.QuietTactic
import Derived.BigQuiet
import Derived.Lib.Hide
import Derived.Handy
import Derived.Deep.RegionHeld3
import Derived.Deep.DrawnRows
import Derived.KernelRfl
import Derived.Great.Walk
import Derived.Test.YtmflalnajinejaaOwn
namespace Go.Proofs.Ytmflalnajinejaa.T
open Go Go.RowKit Go.Sort Mem Own
set_option maxRecDepth 100000
set_option maxHeartbeats 1000000
set_option linter.unusedVariables false
set_option linter.unusedSimpArgs false

mutual
/-- Are two replies the same? -/
def sameB : T → T → Bool
  | .mk k z t l, .mk k' z' t' l' => decide (k = k') && decide (z = z') && (t.toList == t'.toList) && sameBs l l'
def sameBs : List T → List T → Bool
  | [], [] => true
  | x :: l, y :: l' => sameB x y && sameBs l l'
  | [], _ :: _ => false
  | _ :: _, [] => false
end
theorem sameBs_len : ∀ {l l' : List T}, sameBs l l' = true → l.length = l'.length
  | [], [], _ => rfl
  | x :: l, y :: l', h => by
    simp only [sameBs, Bool.and_eq_true] at h
    simp only [List.length_cons]
    rw [sameBs_len h.2]
  | [], _ :: _, h => by simp [sameBs] at h
  | _ :: _, [], h => by simp [sameBs] at h
theorem same_mk (x y : T) : sameB x y = (decide (x.k = y.k) && decide (x.z = y.z) && (x.t.toList == y.t.toList) && sameBs x.l y.l) := by
  cases x; cases y; rfl
theorem sames_false {l l' : List T} : ∀ (i : Nat) (h1 : i < l.length) (h2 : i < l'.length), sameB l[i] l'[i] = false → sameBs l l' = false := by
  induction l generalizing l' with
  | nil => intro i h1; simp at h1
  | cons x l ih =>
    intro i h1 h2 h
    cases l' with
    | nil => simp at h2
    | cons y l' =>
      simp only [sameBs]
      cases i with
      | zero => simp only [List.getElem_cons_zero] at h; rw [h]; rfl
      | succ i =>
        simp only [List.getElem_cons_succ] at h
        rw [ih i (by simpa using h1) (by simpa using h2) h, Bool.and_false]
theorem sames_len {l l' : List T} (h : l.length ≠ l'.length) : sameBs l l' = false := by
  cases hs : sameBs l l' with
  | false => rfl
  | true => exact absurd (sameBs_len hs) h
theorem sames_true {l l' : List T} (hl : l.length = l'.length) (h : ∀ (i : Nat) (h1 : i < l.length) (h2 : i < l'.length), sameB l[i] l'[i] = true) : sameBs l l' = true := by
  induction l generalizing l' with
  | nil => cases l' with | nil => rfl | cons y l' => simp at hl
  | cons x l ih =>
    cases l' with
    | nil => simp at hl
    | cons y l' =>
      simp only [sameBs]
      rw [show sameB x y = true from h 0 (by simp) (by simp), Bool.true_and]
      exact ih (by simpa using hl) (fun i h1 h2 => h (i + 1) (by simpa using h1) (by simpa using h2))
theorem same_self : ∀ (n : Nat) (x : T), x.sz ≤ n → sameB x x = true := by
  intro n
  induction n with
  | zero => intro x h; have := sz_pos x; omega
  | succ n ih =>
    intro x h
    rw [same_mk, sames_true rfl (fun i h1 h2 => ih _ (by have := sz_lt (List.getElem_mem h1 : x.l[i] ∈ x.l); omega))]
    simp
theorem same_refl (x : T) : sameB x x = true := same_self x.sz x (Nat.le_refl _)
theorem same_k {x y : T} (h : ¬ x.k = y.k) : sameB x y = false := by rw [same_mk]; simp [h]
theorem same_z {x y : T} (h : ¬ x.z = y.z) : sameB x y = false := by rw [same_mk]; simp [h]
theorem same_t {x y : T} (h : ¬ x.t.toList = y.t.toList) : sameB x y = false := by rw [same_mk]; simp [h]
theorem same_l {x y : T} (h1 : x.k = y.k) (h2 : x.z = y.z) (h3 : x.t.toList = y.t.toList) : sameB x y = sameBs x.l y.l := by rw [same_mk]; simp [h1, h2, h3]
/-- All lists of a reply have lengths that may be. -/
inductive Fit : T → Prop where
  | mk {k z : Int} {t : ByteArray} {l : List T} : l.length ≤ 1125899906842624 → (∀ y ∈ l, Fit y) → Fit (.mk k z t l)
theorem Fit.len {x : T} (h : Fit x) : x.l.length ≤ 1125899906842624 := by cases h; assumption
theorem Fit.mem {x y : T} (h : Fit x) (hy : y ∈ x.l) : Fit y := by cases h with | mk _ h => exact h y hy
def RSameP (n : Nat) : Prop := ∀ (x y : T) (A B : Option Addr) (c d : Nat) (w : World), x.sz ≤ n → RdT w A x → RdT w B y → Fit x →
    Calls Try.prog 26 #[tV x.k x.z x.t A x.l.length c, tV y.k y.z y.t B y.l.length d] w fun e w' => e = .returned (.bool (sameB x y)) ∧ Below w.heap.size w w'
set_option maxHeartbeats 2000000 in
/-- ref04.Same -/
theorem rsame_all (n : Nat) : RSameP n := by
  induction n with
  | zero => intro x y A B c d w h; have := sz_pos x; omega
  | succ n ih =>
    intro x y A B c d w hs hr hr' hf
    have HN := Lib.hid (new2 w #[.int .i64 x.k, .int .i64 x.z, .string x.t, .slice A x.l.length c] #[.int .i64 y.k, .int .i64 y.z, .string y.t, .slice B y.l.length d] 31 31)
    have HK := Lib.hid (same_k (x := x) (y := y))
    have HZ := Lib.hid (same_z (x := x) (y := y))
    have HT := Lib.hid (same_t (x := x) (y := y))
    have HL := Lib.hid (same_l (x := x) (y := y))
    have HLF := Lib.hid hf.len
    have HRA := Lib.hid hr.rda
    have HRB := Lib.hid hr'.rda
    have HIH := Lib.hid (fun (i : Nat) (h1 : i < x.l.length) (h2 : i < y.l.length) (A' B' : Option Addr) (c' d' : Nat) (w' : World) (ha : RdT w' A' x.l[i]) (hb : RdT w' B' y.l[i]) => ih (x.l[i]) (y.l[i]) A' B' c' d' w' (by have := sz_lt (List.getElem_mem h1 : x.l[i] ∈ x.l); omega) ha hb (hf.mem (List.getElem_mem h1)))
    have HSF := Lib.hid (fun i h1 h2 => sames_false (l := x.l) (l' := y.l) i h1 h2)
    have HSL := Lib.hid (fun h => sames_len (l := x.l) (l' := y.l) h)
    have HST := Lib.hid (fun h1 h2 => sames_true (l := x.l) (l' := y.l) h1 h2)
    clear ih hs hr hr' hf
    generalize sameB x y = sb at HK HZ HT HL ⊢
    generalize sameBs x.l y.l = sl at HL HSF HSL HST
    obtain ⟨k, hk⟩ : ∃ k, k = x.k := ⟨_, rfl⟩
    obtain ⟨z, hz⟩ : ∃ z, z = x.z := ⟨_, rfl⟩
    obtain ⟨t, ht⟩ : ∃ t, t = x.t := ⟨_, rfl⟩
    obtain ⟨k', hk'⟩ : ∃ k, k = y.k := ⟨_, rfl⟩
    obtain ⟨z', hz'⟩ : ∃ z, z = y.z := ⟨_, rfl⟩
    obtain ⟨t', ht'⟩ : ∃ t, t = y.t := ⟨_, rfl⟩
    simp only [← hk, ← hz, ← ht, ← hk', ← hz', ← ht'] at HN HK HZ HT HL ⊢
    clear hk hz ht hk' hz' ht'
    generalize x.l = l at HN HSF HSL HST HLF HRA HRB HIH ⊢
    generalize y.l = l' at HN HSF HSL HST HRB HIH ⊢
    obtain ⟨N, hN⟩ : ∃ N, N = l.length := ⟨_, rfl⟩
    obtain ⟨N', hN'⟩ : ∃ N, N = l'.length := ⟨_, rfl⟩
    have HNQ := Lib.hid hN
    have HNQ' := Lib.hid hN'
    rw [← hN, ← hN'] at HN
    rw [← hN, ← hN']
    have hNf : N ≤ 1125899906842624 := by rw [hN]; exact HLF.out
    clear hN hN'
    obtain ⟨n1, n2, n3⟩ := HN.out
    have HB := Lib.hid n3
    have HX := Lib.hid n1
    have HY := Lib.hid n2
    obtain ⟨x0, x1, x2, x3⟩ := cells4 n1
    obtain ⟨y0, y1, y2, y3⟩ := cells4 n2
    have h1 := lt_of_blk n1
    have h2 := lt_of_blk n2
    clear n1 n2 n3
    by_cases hk : k = k'
    · subst hk
      by_cases hz : z = z'
      · subst hz
        by_cases ht : t.toList = t'.toList
        · have htb : (t.toList == t'.toList) = true := by simpa using ht
          have htc : (t.toList != t'.toList) = false := by simpa using ht
          have HS := Lib.hid (HL.out rfl rfl ht)
          clear ht
          by_cases hn : N = N'
          · subst hn
            go_enter Try.func26, Try.ntmps26
            go_wp2_with fail
            go_loopw [5] (fun s5 wr => ∃ i : Nat, i ≤ N ∧ s5 = .int .i64 i ∧ RowKit.Hid (∀ (j : Nat) (h1 : j < l.length) (h2 : j < l'.length), j < i → sameB l[j] l'[j] = true) ∧ RowKit.Hid (wr.heap[w.heap.size]? = some (.cells #[.int .i64 k, .int .i64 z, .string t, .slice A N c] 31 (0, 0))) ∧ RowKit.Hid (wr.heap[w.heap.size + 1]? = some (.cells #[.int .i64 k, .int .i64 z, .string t', .slice B N d] 31 (0, 0))) ∧ RowKit.Hid (Below w.heap.size w wr)) (fun s5 _ => N - (intOf s5).toNat)
            case atStart => exact ⟨0, Nat.zero_le _, rfl, Lib.hid (fun j _ _ h => by omega), HX, HY, HB⟩
            case round =>
              obtain ⟨i, hiL, rfl, HP, HXr, HYr, HBr⟩ := hrel
              clear x0 x1 x2 x3 y0 y1 y2 y3
              obtain ⟨x0, x1, x2, x3⟩ := cells4 HXr.out
              obtain ⟨y0, y1, y2, y3⟩ := cells4 HYr.out
              by_cases hlt : i < N
              · have p1 := Lib.hid (show i < l.length by rw [← HNQ.out]; exact hlt)
                have p2 := Lib.hid (show i < l'.length by rw [← HNQ'.out]; exact hlt)
                obtain ⟨b, off, rfl, hrow⟩ := HRA.out.row (Nat.zero_lt_of_lt p1.out)
                obtain ⟨b', off', rfl, hrow'⟩ := HRB.out.row (Nat.zero_lt_of_lt p2.out)
                obtain ⟨A1, c1, g0, g1, g2, g3, hx⟩ := (hrow.below HBr.out).at p1.out
                obtain ⟨A2, c2, k0, k1, k2, k3, hy⟩ := (hrow'.below HBr.out).at p2.out
                have HCX := Lib.hid hx
                have HCY := Lib.hid hy
                have HI := Lib.hid (HIH.out i p1.out p2.out)
                have HF := Lib.hid (HSF.out i p1.out p2.out)
                have HP1 := Lib.hid (fun (hs : sameB (l[i]'p1.out) (l'[i]'p2.out) = true) => (show ∀ (j : Nat) (h1 : j < l.length) (h2 : j < l'.length), j < i + 1 → sameB l[j] l'[j] = true by
                  intro j hj1 hj2 hj
                  rcases Nat.lt_succ_iff_lt_or_eq.1 hj with h | rfl
                  · exact HP.out j hj1 hj2 h
                  · exact hs))
                clear hrow hrow' hx hy
                generalize l[i]'p1.out = p at g0 g1 g2 g3 HCX HI HF HP1
                generalize l'[i]'p2.out = q at k0 k1 k2 k3 HCY HI HF HP1
                obtain ⟨M, hM⟩ : ∃ N, N = p.l.length := ⟨_, rfl⟩
                obtain ⟨M', hM'⟩ : ∃ N', N' = q.l.length := ⟨_, rfl⟩
                have HI2 := Lib.hid (show ∀ (A' B' : Option Addr) (c' d' : Nat) (w' : World), RdT w' A' p → RdT w' B' q → Calls Try.prog 26 #[tV p.k p.z p.t A' M c', tV q.k q.z q.t B' M' d'] w' fun e w'' => e = .returned (.bool (sameB p q)) ∧ Below w'.heap.size w' w'' by rw [hM, hM']; exact HI.out)
                rw [← hM] at g3
                rw [← hM'] at k3
                clear hM hM' HI
                generalize sameB p q = sxy at HI2 HF HP1
                have hzr := HBr.out.size
                cases sxy with
                | true =>
                  go_wp2_with fail
                  go_region_with ((go_at_call 26; refine Calls.mono (HI2.out A1 A2 c1 c2 _ (HCX.out.below ?_) (HCY.out.below ?_)) ?_; (focus ((repeat (first | exact Below.refl _ _ | (refine Below.drew ?_) | (refine Go.below_drewN ?_ _) | (refine Below.alloc ?_ (by first | (simp; done) | omega | (simp; omega)) _) | (refine Below.setCell ?_ (by first | (simp; done) | omega | (simp; omega)) _) | (refine Below.trans ?_ (Below.mono (by assumption) (by first | (simp; done) | omega | (simp; omega)))))); done)); (focus ((repeat (first | exact Below.refl _ _ | (refine Below.drew ?_) | (refine Go.below_drewN ?_ _) | (refine Below.alloc ?_ (by first | (simp; done) | omega | (simp; omega)) _) | (refine Below.setCell ?_ (by first | (simp; done) | omega | (simp; omega)) _) | (refine Below.trans ?_ (Below.mono (by assumption) (by first | (simp; done) | omega | (simp; omega)))))); done)); (rintro e w2 ⟨rfl, hb2⟩; have hbb : RowKit.Below wr.heap.size wr w2 := (by ((repeat (first | exact Below.refl _ _ | (refine Below.drew ?_) | (refine Go.below_drewN ?_ _) | (refine Below.alloc ?_ (by first | (simp; done) | omega | (simp; omega)) _) | (refine Below.setCell ?_ (by first | (simp; done) | omega | (simp; omega)) _) | (refine Below.trans ?_ (Below.mono (by assumption) (by first | (simp; done) | omega | (simp; omega)))))); done)); have HB2 := Lib.hid (HBr.out.trans (hbb.mono hzr)); have HX2 := Lib.hid (keep_blk hbb HXr.out); have HY2 := Lib.hid (keep_blk hbb HYr.out); clear hb2 hbb)))
                  all_goals
                    go_wp2
                    exact ⟨⟨i + 1, by omega, by go_num, Lib.hid (HP1.out (by trivial)), HX2, HY2, HB2⟩, by simp [intOf]; omega⟩
                | false =>
                  have hsl := HF.out rfl
                  have hsb : sb = false := by rw [HS.out, hsl]
                  subst hsb
                  go_wp2_with fail
                  go_region_with ((go_at_call 26; refine Calls.mono (HI2.out A1 A2 c1 c2 _ (HCX.out.below ?_) (HCY.out.below ?_)) ?_; (focus ((repeat (first | exact Below.refl _ _ | (refine Below.drew ?_) | (refine Go.below_drewN ?_ _) | (refine Below.alloc ?_ (by first | (simp; done) | omega | (simp; omega)) _) | (refine Below.setCell ?_ (by first | (simp; done) | omega | (simp; omega)) _) | (refine Below.trans ?_ (Below.mono (by assumption) (by first | (simp; done) | omega | (simp; omega)))))); done)); (focus ((repeat (first | exact Below.refl _ _ | (refine Below.drew ?_) | (refine Go.below_drewN ?_ _) | (refine Below.alloc ?_ (by first | (simp; done) | omega | (simp; omega)) _) | (refine Below.setCell ?_ (by first | (simp; done) | omega | (simp; omega)) _) | (refine Below.trans ?_ (Below.mono (by assumption) (by first | (simp; done) | omega | (simp; omega)))))); done)); (rintro e w2 ⟨rfl, hb2⟩; have hbb : RowKit.Below wr.heap.size wr w2 := (by ((repeat (first | exact Below.refl _ _ | (refine Below.drew ?_) | (refine Go.below_drewN ?_ _) | (refine Below.alloc ?_ (by first | (simp; done) | omega | (simp; omega)) _) | (refine Below.setCell ?_ (by first | (simp; done) | omega | (simp; omega)) _) | (refine Below.trans ?_ (Below.mono (by assumption) (by first | (simp; done) | omega | (simp; omega)))))); done)); have HB2 := Lib.hid (HBr.out.trans (hbb.mono hzr)); clear hb2 hbb)))
                  all_goals
                    go_wp2
                    go_ret
                    exact ⟨rfl, HB2.out⟩
              · have hsl : sl = true := HST.out (by rw [← HNQ.out, ← HNQ'.out]) (fun j h1 h2 => HP.out j h1 h2 (by have := HNQ.out; omega))
                have hsb : sb = true := by rw [HS.out, hsl]
                subst hsb
                go_wp2
                go_ret
                exact ⟨rfl, HBr.out⟩
          · have hsb : sb = false := by rw [HS.out, HSL.out (by rw [← HNQ.out, ← HNQ'.out]; exact hn)]
            subst hsb
            have hnb : ((N : Int) != (N' : Int)) = true := by simp; omega
            have hnc : decide (N = N') = false := by simpa using hn
            go_enter Try.func26, Try.ntmps26
            go_wp2
            go_ret
            exact ⟨rfl, HB.out⟩
        · have htb : (t.toList == t'.toList) = false := by simpa using ht
          have htc : (t.toList != t'.toList) = true := by simpa using ht
          have hsb := HT.out ht
          subst hsb
          clear ht
          go_enter Try.func26, Try.ntmps26
          go_wp2
          go_ret
          exact ⟨rfl, HB.out⟩
      · have hsb := HZ.out hz
        subst hsb
        have hzb : (z == z') = false := by simpa using hz
        have hzc : (z != z') = true := by simpa using hz
        go_enter Try.func26, Try.ntmps26
        go_wp2
        go_ret
        exact ⟨rfl, HB.out⟩
    · have hsb := HK.out hk
      subst hsb
      have hkb : (k == k') = false := by simpa using hk
      have hkc : (k != k') = true := by simpa using hk
      go_enter Try.func26, Try.ntmps26
      go_wp2
      go_ret
      exact ⟨rfl, HB.out⟩
end Go.Proofs.Ytmflalnajinejaa.T
