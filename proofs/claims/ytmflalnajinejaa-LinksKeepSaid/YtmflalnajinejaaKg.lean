import Derived.Deep.DeepCutAuto
import Derived.Laws.OwnMore
import Derived.OwnWalk
import Derived.Lib.AppendStr
import Derived.Lib.SliceRun
import Derived.Lib.SmallJoins
import Derived.IntWalk
import Derived.WalkMore
import Derived.Lib.OthersKept
import Derived.Deep.LoopGhost
import Derived.Deep.RegionLaw
import Derived.Deep.AppendLies
import Derived.Test.YtmflalnajinejaaProg
import Derived.Test.YtmflalnajinejaaMem
import Derived.Test.YtmflalnajinejaaBlk
import Derived.Test.YtmflalnajinejaaAp
import Derived.Test.YtmflalnajinejaaKd
import Derived.Test.YtmflalnajinejaaOwn
import Derived.WalkKit
import Derived.Outline
import Derived.WalkLawsBesides
import Derived.Deep.QuietTactic
import Derived.BigQuiet
import Derived.Lib.Hide
import Derived.Handy
import Derived.Deep.RegionHeld3
import Derived.Deep.DrawnRows
import Derived.KernelRfl
import Derived.Great.Walk
import Derived.Test.YtmflalnajinejaaOwn
namespace Go.Proofs.Ytmflalnajinejaa.T
open Go Go.RowKit Go.Sort Mem Own
set_option maxRecDepth 100000
set_option maxHeartbeats 1000000
set_option linter.unusedVariables false
set_option linter.unusedSimpArgs false

/-- Are two rows of texts the same? -/
def sameA : List ByteArray → List ByteArray → Bool
  | [], [] => true
  | x :: l, y :: l' => (x.toList == y.toList) && sameA l l'
  | [], _ :: _ => false
  | _ :: _, [] => false
theorem sameA_len : ∀ {l l' : List ByteArray}, sameA l l' = true → l.length = l'.length
  | [], [], _ => rfl
  | x :: l, y :: l', h => by
    simp only [sameA, Bool.and_eq_true] at h
    simp only [List.length_cons]
    rw [sameA_len h.2]
  | [], _ :: _, h => by simp [sameA] at h
  | _ :: _, [], h => by simp [sameA] at h
theorem sameA_false {l l' : List ByteArray} : ∀ (i : Nat) (h1 : i < l.length) (h2 : i < l'.length), ¬ l[i].toList = l'[i].toList → sameA l l' = false := by
  induction l generalizing l' with
  | nil => intro i h1; simp at h1
  | cons x l ih =>
    intro i h1 h2 h
    cases l' with
    | nil => simp at h2
    | cons y l' =>
      simp only [sameA]
      cases i with
      | zero => simp only [List.getElem_cons_zero] at h; simp [h]
      | succ i =>
        simp only [List.getElem_cons_succ] at h
        rw [ih i (by simpa using h1) (by simpa using h2) h, Bool.and_false]
theorem sameA_ne {l l' : List ByteArray} (h : l.length ≠ l'.length) : sameA l l' = false := by
  cases hs : sameA l l' with
  | false => rfl
  | true => exact absurd (sameA_len hs) h
theorem sameA_true {l l' : List ByteArray} (hl : l.length = l'.length) (h : ∀ (i : Nat) (h1 : i < l.length) (h2 : i < l'.length), l[i].toList = l'[i].toList) : sameA l l' = true := by
  induction l generalizing l' with
  | nil => cases l' with | nil => rfl | cons y l' => simp at hl
  | cons x l ih =>
    cases l' with
    | nil => simp at hl
    | cons y l' =>
      simp only [sameA]
      rw [show (x.toList == y.toList) = true from by have := h 0 (by simp) (by simp); simp only [List.getElem_cons_zero] at this; simp [this], Bool.true_and]
      exact ih (by simpa using hl) (fun i h1 h2 => h (i + 1) (by simpa using h1) (by simpa using h2))
theorem sameA_self (l : List ByteArray) : sameA l l = true := sameA_true rfl fun _ _ _ => rfl
/-- ref06.Same -/
theorem same6_is (l l' : List ByteArray) (A B : Option Addr) (c d : Nat) (w : World) (ha : Rd w A l) (hb : Rd w B l') (hn : l.length ≤ 1125899906842624) :
    Calls Try.prog 27 #[.slice A l.length c, .slice B l'.length d] w fun e w' => e = .returned (.bool (sameA l l')) ∧ Below w.heap.size w w' := by
  have HA := Lib.hid ha; have HB0 := Lib.hid hb
  have HSF := Lib.hid (fun i h1 h2 => sameA_false (l := l) (l' := l') i h1 h2)
  have HSL := Lib.hid (fun h => sameA_ne (l := l) (l' := l') h)
  have HST := Lib.hid (fun h1 h2 => sameA_true (l := l) (l' := l') h1 h2)
  clear ha hb
  generalize sameA l l' = sb at HSF HSL HST ⊢
  obtain ⟨L, hL⟩ : ∃ L, L = l.length := ⟨_, rfl⟩
  obtain ⟨L', hL'⟩ : ∃ L', L' = l'.length := ⟨_, rfl⟩
  have HL := Lib.hid hL
  have HL' := Lib.hid hL'
  rw [← hL] at hn
  rw [← hL, ← hL']
  clear hL hL'
  by_cases hne : L = L'
  · subst hne
    have hne1 : decide (L = L) = true := by simp
    go_enter Try.func27, Try.ntmps27
    go_wp2_with fail
    go_loopw [5] (fun s5 wr => ∃ i : Nat, i ≤ L ∧ s5 = .int .i64 i ∧ RowKit.Hid (∀ (j : Nat) (h1 : j < l.length) (h2 : j < l'.length), j < i → l[j].toList = l'[j].toList) ∧ RowKit.Hid (Below w.heap.size w wr)) (fun s5 _ => L - (intOf s5).toNat)
    case atStart => exact ⟨0, Nat.zero_le _, rfl, Lib.hid (fun j _ _ h => by omega), Lib.hid (Below.refl _ _)⟩
    case round =>
      obtain ⟨i, hiL, rfl, HP, HB⟩ := hrel
      have hzr := HB.out.size
      by_cases hlt : i < L
      · have h1 := Lib.hid (show i < l.length by rw [← HL.out]; exact hlt)
        have h2 := Lib.hid (show i < l'.length by rw [← HL'.out]; exact hlt)
        obtain ⟨b, off, rfl⟩ := HA.out.addr (Nat.zero_lt_of_lt h1.out)
        obtain ⟨b', off', rfl⟩ := HB0.out.addr (Nat.zero_lt_of_lt h2.out)
        have g0 := (rd_keeps HA.out (keeps_below HB.out)).cell h1.out
        have k0 := (rd_keeps HB0.out (keeps_below HB.out)).cell h2.out
        have HF := Lib.hid (HSF.out i h1.out h2.out)
        have HP1 := Lib.hid (fun (hs : (l[i]'h1.out).toList = (l'[i]'h2.out).toList) => (show ∀ (j : Nat) (h1 : j < l.length) (h2 : j < l'.length), j < i + 1 → l[j].toList = l'[j].toList by
          intro j hj1 hj2 hj
          rcases Nat.lt_succ_iff_lt_or_eq.1 hj with h | rfl
          · exact HP.out j hj1 hj2 h
          · exact hs))
        generalize l[i]'h1.out = x at g0 HF HP1
        generalize l'[i]'h2.out = y at k0 HF HP1
        by_cases ht : x.toList = y.toList
        · have htc : (x.toList != y.toList) = false := by simpa using ht
          have htb : (x.toList == y.toList) = true := by simpa using ht
          have HP2 := Lib.hid (HP1.out ht)
          clear ht
          go_wp2_with fail
          go_region_with fail
          all_goals
            go_wp2
            exact ⟨⟨i + 1, by omega, by go_num, HP2, Lib.hid (HB.out.drew)⟩, by simp [intOf]; omega⟩
        · have htc : (x.toList != y.toList) = true := by simpa using ht
          have htb : (x.toList == y.toList) = false := by simpa using ht
          have hsb := HF.out ht
          subst hsb
          clear ht
          go_wp2_with fail
          go_region_with fail
          all_goals
            go_wp2
            go_ret
            exact ⟨rfl, HB.out.drew⟩
      · have hsb : sb = true := HST.out (by rw [← HL.out, ← HL'.out]) (fun j h1 h2 => HP.out j h1 h2 (by have := HL.out; omega))
        subst hsb
        go_wp2
        go_ret
        exact ⟨rfl, HB.out⟩
  · have hsb : sb = false := HSL.out (by rw [← HL.out, ← HL'.out]; exact hne)
    subst hsb
    have hneb : ((L : Int) != (L' : Int)) = true := by simp; omega
    have hned : decide (L = L') = false := by simpa using hne
    go_enter Try.func27, Try.ntmps27
    go_wp2
    go_ret
    exact ⟨rfl, Below.refl _ _⟩
end Go.Proofs.Ytmflalnajinejaa.T
