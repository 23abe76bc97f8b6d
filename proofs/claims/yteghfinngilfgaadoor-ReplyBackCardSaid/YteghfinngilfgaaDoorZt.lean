import Derived.Deep.DeepCutAuto
import Derived.Laws.OwnMore
import Derived.OwnWalk
import Derived.Lib.AppendStr
import Derived.Lib.SliceRun
import Derived.Lib.SmallJoins
import Derived.IntWalk
import Derived.Lib.ItoaLen
import Derived.WalkMore
import Derived.Lib.AtoiAllCases
import Derived.Lib.OthersKept
import Derived.Laws.Runes
import Derived.Deep.LoopGhost
import Derived.Deep.RegionLaw
import Derived.Deep.AppendLies
import Derived.Test.YteghfinngilfgaaDoorProg
import Derived.Test.YteghfinngilfgaaDoorMem
import Derived.Test.YteghfinngilfgaaDoorZs
import Derived.WalkKit
import Derived.Outline
import Derived.WalkLawsBesides
import Derived.Deep.QuietTactic
import Derived.BigQuiet
import Derived.Lib.Hide
import Derived.Handy
import Derived.Deep.RegionHeld3
import Derived.Deep.DrawnRows
import Derived.KernelRfl
import Derived.Great.Walk
import Derived.Test.YteghfinngilfgaaDoorOwn
namespace Go.Proofs.YteghfinngilfgaaDoor.T
open Go Go.RowKit Go.Sort Mem Own
set_option maxRecDepth 100000
set_option maxHeartbeats 1000000
set_option linter.unusedVariables false
set_option linter.unusedSimpArgs false

theorem line_any' (c : UInt8) (rest : List UInt8) (s : ByteArray) (w : World) (hs : s.toList = c :: rest) (hc : ¬ c = 13) (hsz : s.size ≤ 1000000000000000000) :
    Calls Tryd.prog 34 #[.string s] w fun e w' => ∃ (l : ByteArray) (a : Nat) (err : Int), e = .returned (.tuple #[.string l, .int .i64 (a : Int), .int .i64 err]) ∧ ((err = 0 ∧ a ≤ s.size ∧ 1 ≤ l.size ∧ l.size ≤ 600) ∨ err = 40 ∨ err = 41) ∧ Below w.heap.size w w' :=
  (line_any c rest s w hs hc hsz).mono fun e w' h => by
    rcases h with ⟨⟨l, a, h1, h2, h3, h4⟩, hb⟩ | ⟨⟨err, h1, h2⟩, hb⟩
    · exact ⟨l, a, 0, h1, .inl ⟨rfl, h2, h3, h4⟩, hb⟩
    · exact ⟨_, 0, err, h1, .inr h2, hb⟩
theorem number_any' (s : ByteArray) (least most : Int) (w : World) (hs : s.size ≤ 1000000) (hT : Tab w) (he : ErrV w) :
    Calls Tryd.prog 35 #[.string s, .int .i64 least, .int .i64 most] w fun e w' => ∃ n err : Int, e = .returned (.tuple #[.int .i64 n, .int .i64 err]) ∧ ((err = 0 ∧ least ≤ n ∧ n ≤ most) ∨ (err = 41 ∧ n = 0)) ∧ Below w.heap.size w w' :=
  (number_any s least most w hs hT he).mono fun e w' h => by
    obtain ⟨⟨n, h1, h2, h3⟩ | h1, hb⟩ := h
    · exact ⟨n, 0, h1, .inl ⟨rfl, h2, h3⟩, hb⟩
    · exact ⟨0, 41, h1, .inr ⟨rfl, rfl⟩, hb⟩
/-- reply.bulk of any text. -/
theorem bulk_any (n : Nat) (s : ByteArray) (w : World) (hz : n ≤ 1048576) (hsz : s.size ≤ 1000000000000000000) :
    Calls Tryd.prog 36 #[.string s, .int .i64 (n : Int)] w fun e w' => ∃ (t : ByteArray) (err : Int), e = .returned (.tuple #[.string t, .int .i64 err]) ∧ ((err = 0 ∧ n + 2 ≤ s.size) ∨ err = 40 ∨ err = 41) ∧ Below w.heap.size w w' := by
  have kn : (convert 42 42 (.slice (some ⟨w.heap.size, 0, none⟩) 2 2)).run Tryd.prog (w.alloc (.cells #[.int .u8 13, .int .u8 10] 5)) = .ok (.slice (some ⟨w.heap.size, 0, none⟩) 2 2) (w.alloc (.cells #[.int .u8 13, .int .u8 10] 5 (2, 3))) := Lib.run_convert_bytes_const (P := Tryd.prog) w 42 5 #[.int .u8 13, .int .u8 10] 2 2 Tryd.underlying42 Tryd.underlying5
  go_enter Tryd.func36, Tryd.ntmps36
  go_wp2_with fail
  have HB := Lib.hid (show Below w.heap.size w (w.alloc (.cells #[.int .u8 13, .int .u8 10] 5 (2, 3))) from (Below.refl _ _).alloc (Nat.le_refl _) _)
  have hc : (w.alloc (.cells #[.int .u8 13, .int .u8 10] 5 (2, 3))).heap[w.heap.size]? = some (.cells #[.int .u8 13, .int .u8 10] 5 (2, 3)) := Array.getElem?_push_size
  obtain ⟨w1, hw1⟩ : ∃ w1, w1 = w.alloc (.cells #[.int .u8 13, .int .u8 10] 5 (2, 3)) := ⟨_, rfl⟩
  rw [← hw1] at HB hc ⊢
  clear hw1 kn
  have hc0 : w1.cell? ⟨w.heap.size, 0, none⟩ = some (.int .u8 13) := by simp [World.cell?, hc]
  have hc1 : w1.cell? ⟨w.heap.size, 1, none⟩ = some (.int .u8 10) := by simp [World.cell?, hc]
  clear hc
  go_loopw [11] (fun s11 wr => ∃ i : Nat, i ≤ 2 ∧ s11 = .int .i64 i ∧ wr = w1) (fun s11 _ => 2 - (intOf s11).toNat)
  case atStart => exact ⟨0, by omega, rfl, rfl⟩
  case round =>
    obtain ⟨i, hi, rfl, rfl⟩ := hrel
    rcases (show i = 0 ∨ i = 1 ∨ i = 2 by omega) with rfl | rfl | rfl
    · by_cases hlt : n < s.size
      · have e1 : decide ((n : Int) < (s.size : Int)) = true := by simpa using hlt
        have hwr : IntKind.i64.wrap ((n : Int) + 0) = (n : Int) := by simp; exact wrap_small _ (by omega) (by omega)
        obtain ⟨b, hg⟩ : ∃ b, s[n]'hlt = b := ⟨_, rfl⟩
        by_cases hb : b = 13
        · subst hb
          go_wp2_with fail
          exact ⟨⟨1, by omega, rfl, trivial⟩, by simp [intOf]⟩
        · have hb2 : ((b.toNat : Int) == 13) = false := by
            simp only [beq_eq_false_iff_ne, ne_eq]; intro h; exact hb (UInt8.toNat_inj.1 (by show b.toNat = 13; omega))
          go_wp2_with fail
          go_ret2
          exact ⟨_, 41, rfl, .inr (.inr rfl), HB.out⟩
      · have e1 : decide ((n : Int) < (s.size : Int)) = false := by simpa using hlt
        go_wp2_with fail
        exact ⟨⟨1, by omega, rfl, trivial⟩, by simp [intOf]⟩
    · by_cases hlt : n + 1 < s.size
      · have e1 : decide ((n : Int) + 1 < (s.size : Int)) = true := by simp; omega
        obtain ⟨b, hg⟩ : ∃ b, s[n + 1]'hlt = b := ⟨_, rfl⟩
        by_cases hb : b = 10
        · subst hb
          go_wp2_with fail
          exact ⟨⟨2, by omega, rfl, trivial⟩, by simp [intOf]⟩
        · have hb2 : ((b.toNat : Int) == 10) = false := by
            simp only [beq_eq_false_iff_ne, ne_eq]; intro h; exact hb (UInt8.toNat_inj.1 (by show b.toNat = 10; omega))
          go_wp2_with fail
          go_ret2
          exact ⟨_, 41, rfl, .inr (.inr rfl), HB.out⟩
      · have e1 : decide ((n : Int) + 1 < (s.size : Int)) = false := by simp; omega
        go_wp2_with fail
        exact ⟨⟨2, by omega, rfl, trivial⟩, by simp [intOf]⟩
    · by_cases h2 : n + 2 ≤ s.size
      · have e2 : decide ((s.size : Int) < (n : Int) + 2) = false := by simp; omega
        have hle : n ≤ s.size := by omega
        go_wp2_with fail
        go_ret2
        exact ⟨_, 0, rfl, .inl ⟨rfl, h2⟩, HB.out⟩
      · have e2 : decide ((s.size : Int) < (n : Int) + 2) = true := by simp; omega
        go_wp2_with fail
        go_ret2
        exact ⟨_, 40, rfl, .inr (.inl rfl), HB.out⟩
/-- What is told of any text. -/
def RAnyP (s : ByteArray) (w : World) (e : Ending) (w' : World) : Prop := ∃ (k z : Int) (t : ByteArray) (A : Option Addr) (m c a : Nat) (err : Int), e = .returned (.tuple #[tV k z t A m c, .int .i64 (a : Int), .int .i64 err]) ∧ a ≤ s.size ∧ Below w.heap.size w w'
theorem own_push {B i : Nat} {v : Value} {xs : List Value} {w : World} {g cc : Nat} {v0 v1 v2 v3 : Value} (hO : w.ownsRow B 24 4 v i xs) (hi : i ≤ 1000000) (hB : B ≤ w.heap.size) (hg : w.heap[g]? = some (.cells #[v0, v1, v2, v3] 24 (0, 0))) (h0 : v0.oneCell' = true) (h1 : v1.oneCell' = true) (h2 : v2.oneCell' = true) (h3 : v3.oneCell' = true) :
    ∃ v' w', (Builtin.append_ #[22, 22] 22 #[v, .slice (some ⟨g, 0, none⟩) 1 cc]).run Tryd.prog w = .ok v' w' ∧ (∃ xs', w'.ownsRow B 24 4 v' (i + 1) xs') ∧ w.grownBy w' v.ownBlock := by
  obtain ⟨i0, hi0, hz, hsz, hby⟩ := info_parts info24
  obtain ⟨c0, c1, c2, c3⟩ := cells4 hg
  obtain ⟨v', w', k1, k2, k3, -⟩ := run_append_own (P := Tryd.prog) w B 22 22 24 i0 _ 4 56 Tryd.underlying22 hi0 hz hsz hby rfl (by decide) v i _ hO ⟨g, 0, none⟩ 1 cc [v0, v1, v2, v3] rfl
    (by
      intro j u hj
      match j, hj with
      | 0, hj => cases hj; exact c0
      | 1, hj => cases hj; exact c1
      | 2, hj => cases hj; exact c2
      | 3, hj => cases hj; exact c3
      | j + 4, hj => simp at hj)
    (by intro u hu; simp only [List.mem_cons, List.not_mem_nil, or_false] at hu; rcases hu with rfl | rfl | rfl | rfl <;> assumption)
    (by unfold maxLen; omega) (by omega) hB
  exact ⟨v', w', k1, ⟨_, k2⟩, k3⟩
theorem own_form {B i : Nat} {v : Value} {xs : List Value} {w : World} (h : w.ownsRow B 24 4 v i xs) : ∃ A c, v = .slice A i c := by
  rcases h.2 with ⟨rfl, rfl⟩ | ⟨g, cap, cur, rfl, _⟩
  · exact ⟨_, _, rfl⟩
  · exact ⟨_, _, rfl⟩
set_option maxHeartbeats 4000000 in
/-- reply.list of any text. -/
theorem list_any (N : Nat) (d : Nat) (s : ByteArray) (w : World) (hN1 : N ≤ 1024) (hd : d < 4) (hsz : s.size ≤ 1000000000000000000) (hT : Tab w) (he : ErrV w)
    (ih : ∀ (u : ByteArray) (wx : World), u.size ≤ 1000000000000000000 → Tab wx → ErrV wx → Calls Tryd.prog 25 #[.string u, .int .i64 ((d : Int) + 1)] wx (RAnyP u wx)) :
    Calls Tryd.prog 37 #[.string s, .int .i64 (N : Int), .int .i64 (d : Int)] w (fun e w' => ∃ (A : Option Addr) (m c a : Nat) (err : Int), e = .returned (.tuple #[.slice A m c, .int .i64 (a : Int), .int .i64 err]) ∧ a ≤ s.size ∧ Below w.heap.size w w') := by
  have HT := Lib.hid hT
  have HE := Lib.hid he
  have HIH := Lib.hid ih
  clear hT he ih
  go_enter Tryd.func37, Tryd.ntmps37
  go_wp2_with fail
  go_loopw [9, 10, 15] (fun s9 s10 s15 wx => ∃ (v : Value) (i a : Nat) (xs : List Value), v = s9 ∧ i ≤ N ∧ s15 = .int .i64 i ∧ s10 = .int .i64 (a : Int) ∧ a ≤ s.size ∧ RowKit.Hid (wx.ownsRow w.heap.size 24 4 v i xs) ∧ RowKit.Hid (Below w.heap.size w wx)) (fun _ _ s15 _ => N - (intOf s15).toNat)
  case atStart => exact ⟨_, 0, 0, [], rfl, Nat.zero_le _, rfl, rfl, Nat.zero_le _, Lib.hid (World.ownsRow_nil _ _ _ _), Lib.hid (Below.refl _ _)⟩
  case round =>
    obtain ⟨v, i, a, xs, rfl, hi, rfl, rfl, ha, HO, HB⟩ := hrel
    have hzr := HB.out.size
    by_cases hlt : i < N
    · obtain ⟨u, hU⟩ : ∃ u, s.extract a s.size = u := ⟨_, rfl⟩
      have hus : u.size = s.size - a := by rw [← hU]; simp
      have HC := Lib.hid (fun (wx : World) (hT : Tab wx) (hE : ErrV wx) => HIH.out u wx (by omega) hT hE)
      go_upto_region 5 with fail
      go_cut [11, 12, 13, 9, 10] (fun s11 s12 s13 s9 s10 wx => ∃ (g : Nat) (k z : Int) (t : ByteArray) (A : Option Addr) (m cc b : Nat) (err : Int), s11 = .pointer (some ⟨g, 0, none⟩) ∧ s12 = .int .i64 (b : Int) ∧ s13 = .int .i64 err ∧ v = s9 ∧ s10 = .int .i64 (a : Int) ∧ b ≤ u.size ∧ RowKit.Hid (wx.heap[g]? = some (.cells #[.int .i64 k, .int .i64 z, .string t, .slice A m cc] 24 (0, 0))) ∧ RowKit.Hid (Below wr.heap.size wr wx))
      case first =>
        go_wp2_with (go_at_call 25; (try rw [hU]); refine Calls.mono (HC.out _ (HT.out.keep HB.out) (HE.out.keep HB.out)) ?_; rintro e w1 ⟨k, z, t, A, m, cc, b, err, rfl, hbu, hb1⟩)
        go_meet
        exact ⟨_, k, z, t, A, m, cc, b, err, rfl, rfl, rfl, rfl, rfl, hbu, Lib.hid (heap_alloc_new w1 _), Lib.hid (hb1.alloc hb1.size _)⟩
      case rest =>
        obtain ⟨g, k, z, t, A, m, cc, b, err, rfl, rfl, rfl, rfl, rfl, hbu, HG, HB1⟩ := hcut
        have hz1 := HB1.out.size
        obtain ⟨x0, x1, x2, x3⟩ := cells4 HG.out
        by_cases herr : err = 0
        · subst herr
          go_wp2_with (at_builtin; refine Own.wpList_append_ex rfl (.tmp 30) (.tmp 32) 22 22 rfl v (.slice (some ⟨_, 0, none⟩) 1 1) rfl rfl _ (own_push ((own_below HO.out HB1.out).alloc _) (by omega) (by rw [alloc_sz]; omega) (heap_alloc_new _ _) rfl rfl rfl rfl) ?_; (rintro v2 w2 ⟨⟨xs2, hO2⟩, hg2⟩; have HO2 := Lib.hid hO2; have HB3 := Lib.hid (((HB.out.trans (HB1.out.mono hzr)).alloc (by omega) _).grown hg2 (by rw [alloc_sz]; omega) (fun k hk => (HO.out.lt k hk).1)); clear hO2 hg2 x0 x1 x2 x3))
          exact ⟨⟨v2, i + 1, a + b, xs2, rfl, by omega, by go_num, by simp, by omega, HO2, HB3⟩, by simp [intOf]; omega⟩
        · have herr2 : (err != 0) = true := by simpa using herr
          go_wp2_with fail
          go_ret3
          exact ⟨none, 0, 0, 0, err, rfl, Nat.zero_le _, HB.out.trans (HB1.out.mono hzr)⟩
    · obtain ⟨C, k, rfl⟩ := own_form HO.out
      go_wp2
      go_ret3
      exact ⟨C, i, k, a, 0, rfl, ha, HB.out⟩
end Go.Proofs.YteghfinngilfgaaDoor.T
