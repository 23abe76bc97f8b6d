import Derived.Deep.DeepCutAuto
import Derived.Laws.OwnMore
import Derived.OwnWalk
import Derived.Lib.AppendStr
import Derived.Lib.SliceRun
import Derived.Lib.SmallJoins
import Derived.IntWalk
import Derived.WalkMore
import Derived.Lib.OthersKept
import Derived.Deep.LoopGhost
import Derived.Deep.RegionLaw
import Derived.Deep.AppendLies
import Derived.Test.YtmflalnajinejaaProg
import Derived.Test.YtmflalnajinejaaMem
import Derived.Test.YtmflalnajinejaaBlk
import Derived.Test.YtmflalnajinejaaAp
import Derived.Test.YtmflalnajinejaaKd
import Derived.WalkKit
import Derived.Outline
import Derived.WalkLawsBesides
import Derived.Deep.QuietTactic
import Derived.BigQuiet
import Derived.Lib.Hide
import Derived.Handy
import Derived.Deep.RegionHeld3
import Derived.Deep.DrawnRows
import Derived.KernelRfl
import Derived.Great.Walk
import Derived.Test.YtmflalnajinejaaOwn
namespace Go.Proofs.Ytmflalnajinejaa.T
open Go Go.RowKit Go.Sort Mem Own
set_option maxRecDepth 100000
set_option maxHeartbeats 1000000
set_option linter.unusedVariables false
set_option linter.unusedSimpArgs false

mutual
/-- law18.small -/
def smallB (d : Int) : T → Bool
  | .mk _ _ _ l => !decide (8 < d) && !decide (50 < l.length) && smallsB (d + 1) l
def smallsB (d : Int) : List T → Bool
  | [] => true
  | x :: l => smallB d x && smallsB d l
end
theorem smallsB_all {d : Int} {l : List T} : smallsB d l = l.all (smallB d) := by
  induction l with
  | nil => rfl
  | cons x l ih => simp only [smallsB, List.all_cons, ih]
theorem smallB_mk (d : Int) (x : T) : smallB d x = (!decide (8 < d) && !decide (50 < x.l.length) && x.l.all (smallB (d + 1))) := by
  cases x; rw [← smallsB_all]; rfl
theorem small_1 {d : Int} {x : T} (h : 8 < d) : smallB d x = false := by rw [smallB_mk]; simp [h]
theorem small_2 {d : Int} {x : T} (h : 50 < x.l.length) : smallB d x = false := by rw [smallB_mk]; simp [h]
theorem small_4 {d : Int} {x : T} (h1 : ¬ 8 < d) (h2 : ¬ 50 < x.l.length) : smallB d x = x.l.all (smallB (d + 1)) := by rw [smallB_mk]; simp [h1, h2]
theorem all_take {α : Type} {p : α → Bool} {l : List α} {i : Nat} (hi : i < l.length) (h : (l.take i).all p = true) (hp : p l[i] = true) : (l.take (i + 1)).all p = true := by
  rw [List.take_succ_eq_append_getElem hi, List.all_append, h]; simp [hp]
theorem all_not {α : Type} {p : α → Bool} {l : List α} {i : Nat} (hi : i < l.length) (hp : p l[i] = false) : l.all p = false := by
  rw [List.all_eq_false]; exact ⟨l[i], List.getElem_mem hi, by rw [hp]; simp⟩
theorem small_is : ∀ (n : Nat) (x : T) (d : Int) (A : Option Addr) (c : Nat) (w : World), x.sz ≤ n → RdT w A x → 0 ≤ d → d ≤ 9 →
    Calls Try.prog 19 #[tV x.k x.z x.t A x.l.length c, .int .i64 d] w fun e w' => e = .returned (.bool (smallB d x)) ∧ Below w.heap.size w w' := by
  intro n
  induction n with
  | zero => intro x _ _ _ _ h; have := sz_pos x; omega
  | succ n ih =>
    intro x d A c w hs hr hd0 hd1
    have HN := Lib.hid (new1 w #[.int .i64 x.k, .int .i64 x.z, .string x.t, .slice A x.l.length c] 31)
    have HR := Lib.hid hr
    have HIH := Lib.hid ih
    have HS := Lib.hid hs
    have HS1 := Lib.hid (small_1 (d := d) (x := x))
    have HS2 := Lib.hid (small_2 (d := d) (x := x))
    have HS4 := Lib.hid (small_4 (d := d) (x := x))
    have HMEM := Lib.hid (fun (i : Nat) (hi : i < x.l.length) => (show (x.l[i]).sz ≤ n by have := sz_lt (List.getElem_mem hi); omega))
    clear ih hs hr
    generalize smallB d x = sb at HS1 HS2 HS4 ⊢
    obtain ⟨k, z, t, l⟩ := x
    dsimp only [T.k, T.z, T.t, T.l] at HN HS1 HS2 HS4 HMEM ⊢
    obtain ⟨L, hL⟩ : ∃ L, L = l.length := ⟨_, rfl⟩
    have HL := Lib.hid hL
    rw [← hL] at HN ⊢
    clear hL
    by_cases h1 : 8 < d
    · have hsb : sb = false := HS1.out h1
      subst hsb
      go_enter Try.func19, Try.ntmps19
      go_wp2
      go_ret
      exact ⟨rfl, HN.out.2⟩
    by_cases h2 : 50 < L
    · have hsb : sb = false := HS2.out (by rw [← HL.out]; exact h2)
      subst hsb
      have h1b : decide (8 < d) = false := by simpa using h1
      have h2c : decide ((50 : Int) < (L : Int)) = true := by simp; omega
      go_enter Try.func19, Try.ntmps19
      go_wp2
      go_ret
      exact ⟨rfl, HN.out.2⟩
    have HSB2 := Lib.hid (HS4.out h1 (by rw [← HL.out]; exact h2))
    have h1b : decide (8 < d) = false := by simpa using h1
    have h2b : decide ((50 : Int) < (L : Int)) = false := by simp; omega
    have hd8 : d ≤ 8 := by omega
    have hL60 : L ≤ 50 := by omega
    clear HS1 HS2 HS4 h1 h2
    go_enter Try.func19, Try.ntmps19
    go_wp2_with fail
    go_loopw [18] (fun s18 wr => ∃ i : Nat, i ≤ L ∧ s18 = .int .i64 i ∧ RowKit.Hid ((l.take i).all (smallB (d + 1)) = true) ∧ RowKit.Hid (Below w.heap.size w wr)) (fun s18 _ => L - (intOf s18).toNat)
    case atStart => exact ⟨0, Nat.zero_le _, rfl, Lib.hid (by simp), Lib.hid HN.out.2⟩
    case round =>
      obtain ⟨i, hiL, rfl, HA, HB⟩ := hrel
      have hzr := HB.out.size
      by_cases hlt : i < L
      · have hlt2 := Lib.hid (show i < l.length by rw [← HL.out]; exact hlt)
        obtain ⟨b, off, rfl, hrow⟩ := HR.out.row (show 0 < (T.mk k z t l).l.length from Nat.zero_lt_of_lt hlt2.out)
        have hrow2 : RdRow w b off l := hrow
        obtain ⟨A', c', g0, g1, g2, g3, hx⟩ := (hrow2.below HB.out).at hlt2.out
        have HX := Lib.hid hx
        have HM := Lib.hid (HMEM.out i hlt2.out)
        have HT := Lib.hid (fun hp => all_take (p := smallB (d + 1)) hlt2.out HA.out hp)
        have HF := Lib.hid (fun hp => all_not (p := smallB (d + 1)) hlt2.out hp)
        clear hrow hrow2 hx
        generalize l[i]'hlt2.out = y at g0 g1 g2 g3 HX HM HT HF
        obtain ⟨N, hN⟩ : ∃ N, N = y.l.length := ⟨_, rfl⟩
        have HNQ := Lib.hid hN
        rw [← hN] at g3
        clear hN
        obtain ⟨sy, hsy⟩ : ∃ sy, smallB (d + 1) y = sy := ⟨_, rfl⟩
        have HSY := Lib.hid hsy
        rw [hsy] at HT HF
        clear hsy
        go_upto_region 5 with fail
        go_cut [6] (fun s6 wx => ∃ b6 : Nat, s6 = .pointer (some ⟨b6, 0, none⟩) ∧ RowKit.Hid (wx.heap[b6]? = some (.cells #[.int .i64 y.k, .int .i64 y.z, .string y.t, .slice A' N c'] 31 (0, 0))) ∧ RowKit.Hid (RdT wx A' y) ∧ RowKit.Hid (Below w.heap.size w wx))
        case first =>
          go_wp2
          go_meet
          exact ⟨_, rfl, Lib.hid (heap_alloc_new wr _), Lib.hid (HX.out.below ((Below.refl _ _).alloc (Nat.le_refl _) _)), Lib.hid (HB.out.alloc hzr _)⟩
        case rest =>
          obtain ⟨b6, rfl, H6, HX1, HB1⟩ := hcut
          obtain ⟨y0, y1, y2, y3⟩ := cells4 H6.out
          clear g0 g1 g2 g3
          cases sy with
          | true =>
            go_wp2_with (go_at_call 19; rw [HNQ.out]; refine Calls.mono (HIH.out y (d + 1) A' c' _ HM.out HX1.out (by omega) (by omega)) ?_; (rintro e w2 ⟨rfl, hb2⟩; rw [HSY.out]; have HB2 := Lib.hid (HB1.out.trans (hb2.mono HB1.out.size)); clear hb2))
            exact ⟨⟨i + 1, by omega, by go_num, Lib.hid (HT.out (by trivial)), HB2⟩, by simp [intOf]; omega⟩
          | false =>
            have hsb := HF.out rfl
            rw [← HSB2.out] at hsb
            subst hsb
            go_wp2_with (go_at_call 19; rw [HNQ.out]; refine Calls.mono (HIH.out y (d + 1) A' c' _ HM.out HX1.out (by omega) (by omega)) ?_; (rintro e w2 ⟨rfl, hb2⟩; rw [HSY.out]; have HB2 := Lib.hid (HB1.out.trans (hb2.mono HB1.out.size)); clear hb2))
            go_ret
            exact ⟨rfl, HB2.out⟩
      · have hsb : sb = true := by rw [HSB2.out, ← List.take_of_length_le (show l.length ≤ i by rw [← HL.out]; omega)]; exact HA.out
        subst hsb
        go_wp2
        go_ret
        exact ⟨rfl, HB.out⟩
end Go.Proofs.Ytmflalnajinejaa.T
