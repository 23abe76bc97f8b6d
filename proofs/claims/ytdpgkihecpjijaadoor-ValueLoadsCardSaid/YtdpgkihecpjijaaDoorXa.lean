import Derived.Deep.DeepCutAuto
import Derived.Laws.OwnMore
import Derived.OwnWalk
import Derived.Lib.AppendStr
import Derived.Laws.IdiomStrings
import Derived.Lib.ConvBytes
import Derived.Lib.SmallJoins
import Derived.IntWalk
import Derived.Deep.AppendLies
import Derived.Deep.RegionLaw
import Derived.Test.YtdpgkihecpjijaaDoorProg
import Derived.Test.YtdpgkihecpjijaaDoorMem
import Derived.Test.YtdpgkihecpjijaaDoorVu
import Derived.Test.YtdpgkihecpjijaaDoorVw
import Derived.Test.YtdpgkihecpjijaaDoorVx
import Derived.Test.YtdpgkihecpjijaaDoorWf
import Derived.Test.YtdpgkihecpjijaaDoorWw
import Derived.WalkKit
import Derived.Outline
import Derived.WalkLawsBesides
import Derived.Deep.QuietTactic
import Derived.BigQuiet
import Derived.Lib.Hide
import Derived.Handy
import Derived.Deep.RegionHeld3
import Derived.Deep.DrawnRows
import Derived.KernelRfl
import Derived.Great.Walk
import Derived.Test.YtdpgkihecpjijaaDoorOwn
namespace Go.Proofs.YtdpgkihecpjijaaDoor.T
open Go Go.RowKit Mem Own
set_option maxRecDepth 100000
set_option maxHeartbeats 1000000
set_option linter.unusedVariables false
set_option linter.unusedSimpArgs false

def pairUp : List ByteArray → List (ByteArray × ByteArray)
  | x :: y :: l => (x, y) :: pairUp l
  | _ => []
theorem pairUp_step {L : List ByteArray} {i : Nat} (h : i + 1 < L.length) : pairUp (L.drop i) = (L[i], L[i + 1]) :: pairUp (L.drop (i + 2)) := by
  rw [List.drop_eq_getElem_cons (show i < L.length by omega), List.drop_eq_getElem_cons h]; rfl
theorem pairUp_stop {L : List ByteArray} {i : Nat} (h : L.length ≤ i + 1) : pairUp (L.drop i) = [] := by
  generalize hd : L.drop i = D
  have : D.length ≤ 1 := by rw [← hd]; simp; omega
  match D with
  | [] => rfl
  | [x] => rfl
  | x :: y :: l => simp at this
/-- The value that bytes (but the sum) may say, of a kind. -/
def readB (k : Int) (s : ByteArray) : Vl :=
  if atF s 1 < 0 then zeroV
  else if k = 1 then ⟨1, (txL (txF s 1 1)).headD ⟨#[]⟩, [], [], 0, 0⟩
  else if k = 2 then (if 256 < atF s 1 then ⟨2, ⟨#[]⟩, [], [], 0, 0⟩ else ⟨2, ⟨#[]⟩, pairUp (txL (txF s 3 (2 * (atF s 1).toNat))), [], 0, 0⟩)
  else if k = 3 ∨ k = 4 then (if 256 < atF s 1 then ⟨k, ⟨#[]⟩, [], [], 0, 0⟩ else ⟨k, ⟨#[]⟩, [], txL (txF s 3 (atF s 1).toNat), 0, 0⟩)
  else if k = 5 then (if s.size = 9 then ⟨5, ⟨#[]⟩, [], [], sgF s 1, sgF s 5⟩ else ⟨5, ⟨#[]⟩, [], [], 0, 0⟩)
  else ⟨k, ⟨#[]⟩, [], [], 0, 0⟩
def readV (s : ByteArray) : Vl := readB (byteAt s 0 : Nat) s
def ReadOut (a : Vl) (w : World) (e : Ending) (w' : World) : Prop := ∃ u, e = .returned u ∧ RowKit.Hid (VRd w' u a) ∧ Below w.heap.size w w'
theorem read_out {w wc : World} {a b : Vl} {PA : Option Addr} {pc : Nat} {IA : Option Addr} {ic : Nat} (hba : b = a) (HG : Below w.heap.size w wc)
    (hP : RdP wc PA a.pairs) (hI : Rd wc IA a.items) (hPb : ∀ b off, PA = some ⟨b, off, none⟩ → w.heap.size < b) (hIb : ∀ b off, IA = some ⟨b, off, none⟩ → w.heap.size < b)
    (np : a.pairs.length ≤ maxLen) (ni : a.items.length ≤ maxLen) (nt : a.text.size ≤ maxLen) (pz : ∀ p ∈ a.pairs, p.1.size ≤ maxLen ∧ p.2.size ≤ maxLen) (iz : ∀ x ∈ a.items, x.size ≤ maxLen) :
    ReadOut b w (.returned (vV a.kind a.text PA a.pairs.length pc IA a.items.length ic a.re a.im))
      ((((((wc.setCell ⟨w.heap.size, 0, none⟩ (.int .i64 a.kind)).setCell ⟨w.heap.size, 1, none⟩ (.string a.text)).setCell ⟨w.heap.size, 2, none⟩ (.slice PA a.pairs.length pc)).setCell ⟨w.heap.size, 3, none⟩ (.slice IA a.items.length ic)).setCell ⟨w.heap.size, 4, none⟩ (.int .i64 a.re)).setCell ⟨w.heap.size, 5, none⟩ (.int .i64 a.im)) := by
  subst hba
  exact ⟨_, rfl, Lib.hid ⟨⟨PA, pc, IA, ic, rfl, hP.blk fun b off e => blk_s6 (fun h => by have := hPb b off e; omega) _ _ _ _ _ _, rdblk hI fun b off e => blk_s6 (fun h => by have := hIb b off e; omega) _ _ _ _ _ _⟩, np, ni, nt, pz, iz⟩, below_s6 HG (Nat.le_refl _)⟩
theorem texts_none {s : ByteArray} {i m : Nat} {w : World} (hs : s.size ≤ maxLen) (hi : i ≤ 3) (hm : m ≤ 512) (h : txF s i m = none) : Calls Tryd.prog 60 #[.string s, .int .i64 (i : Int), .int .i64 (m : Int)] w fun e w' => ∃ (A : Option Addr) (c : Nat), e = .returned (.tuple #[.slice A 0 c, .int .i64 (-1)]) ∧ RowKit.Hid (∀ b off, A = some ⟨b, off, none⟩ → w.heap.size ≤ b) ∧ Below w.heap.size w w' :=
  (texts_is s i m w hs hi hm).mono fun e w' ⟨A, c, h1, h2, h3, h4⟩ => by rw [h] at h1; exact ⟨A, c, h1, h3, h4⟩
theorem texts_some {s : ByteArray} {i m : Nat} {w : World} {l : List ByteArray} {e : Nat} (hs : s.size ≤ maxLen) (hi : i ≤ 3) (hm : m ≤ 512) (h : txF s i m = some (l, e)) : Calls Tryd.prog 60 #[.string s, .int .i64 (i : Int), .int .i64 (m : Int)] w fun en w' => ∃ (A : Option Addr) (c : Nat), en = .returned (.tuple #[.slice A l.length c, .int .i64 (e : Int)]) ∧ RowKit.Hid (Rd w' A l) ∧ RowKit.Hid (∀ b off, A = some ⟨b, off, none⟩ → w.heap.size ≤ b) ∧ Below w.heap.size w w' :=
  (texts_is s i m w hs hi hm).mono fun en w' ⟨A, c, h1, h2, h3, h4⟩ => by rw [h] at h1 h2; exact ⟨A, c, h1, h2, h3, h4⟩
/-- The two structs of read: the result and v. -/
theorem read_first (w : World) (k : Int) : ∃ b3 : Nat, Value.pointer (some ⟨w.heap.size + 1, 0, none⟩) = .pointer (some ⟨b3, 0, none⟩) ∧ w.heap.size < b3 ∧
    RowKit.Hid (((w.alloc (.cells #[.int .i64 0, .string ⟨#[]⟩, .slice none 0 0, .slice none 0 0, .int .i64 0, .int .i64 0] 27)).alloc (.cells #[.int .i64 k, .string ⟨#[]⟩, .slice none 0 0, .slice none 0 0, .int .i64 0, .int .i64 0] 27)).heap[w.heap.size]? = some (.cells #[.int .i64 0, .string ⟨#[]⟩, .slice none 0 0, .slice none 0 0, .int .i64 0, .int .i64 0] 27 (0, 0))) ∧
    RowKit.Hid (((w.alloc (.cells #[.int .i64 0, .string ⟨#[]⟩, .slice none 0 0, .slice none 0 0, .int .i64 0, .int .i64 0] 27)).alloc (.cells #[.int .i64 k, .string ⟨#[]⟩, .slice none 0 0, .slice none 0 0, .int .i64 0, .int .i64 0] 27)).heap[b3]? = some (.cells #[.int .i64 k, .string ⟨#[]⟩, .slice none 0 0, .slice none 0 0, .int .i64 0, .int .i64 0] 27 (0, 0))) ∧
    RowKit.Hid (Below w.heap.size w ((w.alloc (.cells #[.int .i64 0, .string ⟨#[]⟩, .slice none 0 0, .slice none 0 0, .int .i64 0, .int .i64 0] 27)).alloc (.cells #[.int .i64 k, .string ⟨#[]⟩, .slice none 0 0, .slice none 0 0, .int .i64 0, .int .i64 0] 27))) := by
  refine ⟨_, rfl, by omega, Lib.hid (keep_block ((Below.refl _ _).alloc (Nat.le_refl _) _) (heap_alloc_new _ _)), Lib.hid ?_, Lib.hid (by ((repeat (first | exact Below.refl _ _ | (refine Below.drew ?_) | (refine Go.below_drewN ?_ _) | (refine Below.alloc ?_ (by first | (simp; done) | omega | (simp; omega)) _) | (refine Below.setCell ?_ (by first | (simp; done) | omega | (simp; omega)) _) | (refine Below.trans ?_ (Below.mono (by assumption) (by first | (simp; done) | omega | (simp; omega)))))); done))⟩
  have := heap_alloc_new (w.alloc (.cells #[.int .i64 0, .string ⟨#[]⟩, .slice none 0 0, .slice none 0 0, .int .i64 0, .int .i64 0] 27)) (.cells #[.int .i64 k, .string ⟨#[]⟩, .slice none 0 0, .slice none 0 0, .int .i64 0, .int .i64 0] 27)
  rw [alloc_size] at this
  exact this
theorem rread_neg (s : ByteArray) (k : Int) (w : World) (hs : s.size ≤ maxLen) (h0 : 1 ≤ s.size) (hk : (byteAt s 0 : Int) = k) (hn : atF s 1 < 0) : Calls Tryd.prog 34 #[.string s] w (ReadOut (readB k s) w) := by
  have HK := Lib.hid (show ((s[0]'(by omega)).toNat : Int) = k by rw [← hk, byteAt_eq (by omega)])
  have HS := Lib.hid hs
  have HWK := Lib.hid (show wrap64 k = k by have := byteAt_lt s 0; unfold wrap64; omega)
  have hs' := hs
  unfold maxLen at hs'
  have HV := Lib.hid (show readB k s = zeroV by unfold readB; rw [if_pos hn])
  clear hk hs
  have hu := Tryd.underlying25
  obtain ⟨z, hz⟩ : ∃ z, z = atF s 1 := ⟨_, rfl⟩
  have HZ1 := Lib.hid hz
  have hzn : z < 0 := by rw [hz]; exact hn
  clear hz hn
  go_enter Tryd.func34, Tryd.ntmps34
  go_upto_region 1 with fail
  go_cut [3] (fun s3 wx => ∃ b3 : Nat, s3 = .pointer (some ⟨b3, 0, none⟩) ∧ w.heap.size < b3 ∧ RowKit.Hid (wx.heap[w.heap.size]? = some (.cells #[.int .i64 0, .string ⟨#[]⟩, .slice none 0 0, .slice none 0 0, .int .i64 0, .int .i64 0] 27 (0, 0))) ∧ RowKit.Hid (wx.heap[b3]? = some (.cells #[.int .i64 k, .string ⟨#[]⟩, .slice none 0 0, .slice none 0 0, .int .i64 0, .int .i64 0] 27 (0, 0))) ∧ RowKit.Hid (Below w.heap.size w wx))
  case first =>
    go_wp2
    go_meet
    simp only [HK.out, HWK.out]
    exact read_first w _
  case rest =>
    obtain ⟨b3, rfl, hb3, HZ, HY, HB⟩ := hcut
    have hzc := HB.out.size
    have hb3c := lt_of_block HY.out
    obtain ⟨d0, d1, d2, d3, d4, d5⟩ := facts6 HY.out
    obtain ⟨e0, e1, e2, e3, e4, e5⟩ := facts6 HZ.out
    obtain ⟨f0, f1, f2, f3, f4, f5⟩ := free6 HZ.out
    go_wp2_with (go_at_call 59; refine Calls.mono (at_is s 1 _ HS.out (by omega)) ?_; rintro e w1 ⟨rfl, hb1⟩; rw [← HZ1.out]; have HYa := Lib.hid (keep_block hb1 HY.out); have HZa := Lib.hid (keep_block hb1 HZ.out); have HBa := Lib.hid (HB.out.trans (hb1.mono hzc)); have hz1 := HBa.out.size; have hz1' := hb1.size; clear hb1 d0 d1 d2 d3 d4 d5 e0 e1 e2 e3 e4 e5 f0 f1 f2 f3 f4 f5; obtain ⟨d0, d1, d2, d3, d4, d5⟩ := facts6 HYa.out; obtain ⟨q0, q1, q2, q3, q4, q5⟩ := free6 HYa.out; obtain ⟨e0, e1, e2, e3, e4, e5⟩ := facts6 HZa.out; obtain ⟨f0, f1, f2, f3, f4, f5⟩ := free6 HZa.out)
    refine end61 Tryd.results34 ?_ (set6 _ _ _ _ _ _ HZa.out) ?_
    · rfl
    · exact read_out (a := ⟨0, ⟨#[]⟩, [], [], 0, 0⟩) (PA := none) (pc := 0) (IA := none) (ic := 0) (HV.out) (HBa.out) (.inl rfl) (.inl rfl) (fun _ _ h => by cases h) (fun _ _ h => by cases h) (Nat.zero_le _) (Nat.zero_le _) (Nat.zero_le _) (fun _ h => by cases h) (fun _ h => by cases h)
theorem rread_1none (s : ByteArray) (k : Int) (w : World) (hs : s.size ≤ maxLen) (h0 : 1 ≤ s.size) (hk : (byteAt s 0 : Int) = k) (hkk : k = 1) (hr : txF s 1 1 = none) (hn : ¬ atF s 1 < 0) : Calls Tryd.prog 34 #[.string s] w (ReadOut (readB k s) w) := by
  have HK := Lib.hid (show ((s[0]'(by omega)).toNat : Int) = k by rw [← hk, byteAt_eq (by omega)])
  have HS := Lib.hid hs
  have HWK := Lib.hid (show wrap64 k = k by have := byteAt_lt s 0; unfold wrap64; omega)
  have hs' := hs
  unfold maxLen at hs'
  subst hkk
  clear hk hs
  have hu := Tryd.underlying25
  obtain ⟨z, hz⟩ : ∃ z, z = atF s 1 := ⟨_, rfl⟩
  have HZ1 := Lib.hid hz
  have hzn : ¬ z < 0 := by rw [hz]; exact hn
  obtain ⟨n, rfl⟩ : ∃ n : Nat, z = n := ⟨z.toNat, by omega⟩
  clear hzn
  have hnn : (atF s 1).toNat = n := by rw [← hz]; rfl
  have hnl0 := (atF_le s 1).2
  rw [← hz] at hnl0
  have hnl : n < 65536 := by omega
  clear hnl0
  have HV := Lib.hid (show readB 1 s = ⟨1, ⟨#[]⟩, [], [], 0, 0⟩ by unfold readB; rw [if_neg hn, if_pos rfl, hr]; rfl)
  have HRR := Lib.hid hr
  clear hz hn hr hnn
  go_enter Tryd.func34, Tryd.ntmps34
  go_upto_region 1 with fail
  go_cut [3] (fun s3 wx => ∃ b3 : Nat, s3 = .pointer (some ⟨b3, 0, none⟩) ∧ w.heap.size < b3 ∧ RowKit.Hid (wx.heap[w.heap.size]? = some (.cells #[.int .i64 0, .string ⟨#[]⟩, .slice none 0 0, .slice none 0 0, .int .i64 0, .int .i64 0] 27 (0, 0))) ∧ RowKit.Hid (wx.heap[b3]? = some (.cells #[.int .i64 1, .string ⟨#[]⟩, .slice none 0 0, .slice none 0 0, .int .i64 0, .int .i64 0] 27 (0, 0))) ∧ RowKit.Hid (Below w.heap.size w wx))
  case first =>
    go_wp2
    go_meet
    simp only [HK.out, HWK.out]
    exact read_first w _
  case rest =>
    obtain ⟨b3, rfl, hb3, HZ, HY, HB⟩ := hcut
    have hzc := HB.out.size
    have hb3c := lt_of_block HY.out
    obtain ⟨d0, d1, d2, d3, d4, d5⟩ := facts6 HY.out
    obtain ⟨e0, e1, e2, e3, e4, e5⟩ := facts6 HZ.out
    obtain ⟨f0, f1, f2, f3, f4, f5⟩ := free6 HZ.out
    go_wp2_with (first
      | (go_at_call 59; refine Calls.mono (at_is s 1 _ HS.out (by omega)) ?_; rintro e w1 ⟨rfl, hb1⟩; rw [← HZ1.out]; have HYa := Lib.hid (keep_block hb1 HY.out); have HZa := Lib.hid (keep_block hb1 HZ.out); have HBa := Lib.hid (HB.out.trans (hb1.mono hzc)); have hz1 := HBa.out.size; have hz1' := hb1.size; clear hb1 d0 d1 d2 d3 d4 d5 e0 e1 e2 e3 e4 e5 f0 f1 f2 f3 f4 f5; obtain ⟨d0, d1, d2, d3, d4, d5⟩ := facts6 HYa.out; obtain ⟨q0, q1, q2, q3, q4, q5⟩ := free6 HYa.out; obtain ⟨e0, e1, e2, e3, e4, e5⟩ := facts6 HZa.out; obtain ⟨f0, f1, f2, f3, f4, f5⟩ := free6 HZa.out)
      | (go_at_call 60; refine Calls.mono (texts_none (i := 1) (m := 1) HS.out (by omega) (by omega) HRR.out) ?_; rintro e2 w2 ⟨A, c, rfl, HA, hb2⟩; have HYb := Lib.hid (keep_block hb2 HYa.out); have HZb := Lib.hid (keep_block hb2 HZa.out); have HBb := Lib.hid (HBa.out.trans (hb2.mono hz1)); have hz2 := HBb.out.size; have hz2' := hb2.size; clear d0 d1 d2 d3 d4 d5 q0 q1 q2 q3 q4 q5 e0 e1 e2 e3 e4 e5 f0 f1 f2 f3 f4 f5; obtain ⟨d0, d1, d2, d3, d4, d5⟩ := facts6 HYb.out; obtain ⟨q0, q1, q2, q3, q4, q5⟩ := free6 HYb.out; obtain ⟨e0, e1, e2, e3, e4, e5⟩ := facts6 HZb.out; obtain ⟨f0, f1, f2, f3, f4, f5⟩ := free6 HZb.out))
    refine end61 Tryd.results34 ?_ (set6 _ _ _ _ _ _ HZb.out) ?_
    · rfl
    · exact read_out (a := ⟨1, ⟨#[]⟩, [], [], 0, 0⟩) (PA := none) (pc := 0) (IA := none) (ic := 0) (HV.out) (HBb.out) (.inl rfl) (.inl rfl) (fun _ _ h => by cases h) (fun _ _ h => by cases h) (Nat.zero_le _) (Nat.zero_le _) (Nat.zero_le _) (fun _ h => by cases h) (fun _ h => by cases h)
theorem rread_1some (s : ByteArray) (k : Int) (w : World) (hs : s.size ≤ maxLen) (h0 : 1 ≤ s.size) (hk : (byteAt s 0 : Int) = k) (hkk : k = 1) (x : ByteArray) (e : Nat) (hr : txF s 1 1 = some ([x], e)) (hn : ¬ atF s 1 < 0) : Calls Tryd.prog 34 #[.string s] w (ReadOut (readB k s) w) := by
  have HK := Lib.hid (show ((s[0]'(by omega)).toNat : Int) = k by rw [← hk, byteAt_eq (by omega)])
  have HS := Lib.hid hs
  have HWK := Lib.hid (show wrap64 k = k by have := byteAt_lt s 0; unfold wrap64; omega)
  have hs' := hs
  unfold maxLen at hs'
  subst hkk
  clear hk hs
  have hu := Tryd.underlying25
  obtain ⟨z, hz⟩ : ∃ z, z = atF s 1 := ⟨_, rfl⟩
  have HZ1 := Lib.hid hz
  have hzn : ¬ z < 0 := by rw [hz]; exact hn
  obtain ⟨n, rfl⟩ : ∃ n : Nat, z = n := ⟨z.toNat, by omega⟩
  clear hzn
  have hnn : (atF s 1).toNat = n := by rw [← hz]; rfl
  have hnl0 := (atF_le s 1).2
  rw [← hz] at hnl0
  have hnl : n < 65536 := by omega
  clear hnl0
  have HV := Lib.hid (show readB 1 s = ⟨1, x, [], [], 0, 0⟩ by unfold readB; rw [if_neg hn, if_pos rfl, hr]; rfl)
  have HRR := Lib.hid hr
  clear hz hn hr hnn
  go_enter Tryd.func34, Tryd.ntmps34
  go_upto_region 1 with fail
  go_cut [3] (fun s3 wx => ∃ b3 : Nat, s3 = .pointer (some ⟨b3, 0, none⟩) ∧ w.heap.size < b3 ∧ RowKit.Hid (wx.heap[w.heap.size]? = some (.cells #[.int .i64 0, .string ⟨#[]⟩, .slice none 0 0, .slice none 0 0, .int .i64 0, .int .i64 0] 27 (0, 0))) ∧ RowKit.Hid (wx.heap[b3]? = some (.cells #[.int .i64 1, .string ⟨#[]⟩, .slice none 0 0, .slice none 0 0, .int .i64 0, .int .i64 0] 27 (0, 0))) ∧ RowKit.Hid (Below w.heap.size w wx))
  case first =>
    go_wp2
    go_meet
    simp only [HK.out, HWK.out]
    exact read_first w _
  case rest =>
    obtain ⟨b3, rfl, hb3, HZ, HY, HB⟩ := hcut
    have hzc := HB.out.size
    have hb3c := lt_of_block HY.out
    obtain ⟨d0, d1, d2, d3, d4, d5⟩ := facts6 HY.out
    obtain ⟨e0, e1, e2, e3, e4, e5⟩ := facts6 HZ.out
    obtain ⟨f0, f1, f2, f3, f4, f5⟩ := free6 HZ.out
    have he := (txF_len HRR.out).2
    have hxs := txF_size HRR.out x (List.mem_singleton.2 rfl)
    dsimp only at he
    go_upto_region 8 with (first
      | (go_at_call 59; refine Calls.mono (at_is s 1 _ HS.out (by omega)) ?_; rintro e w1 ⟨rfl, hb1⟩; rw [← HZ1.out]; have HYa := Lib.hid (keep_block hb1 HY.out); have HZa := Lib.hid (keep_block hb1 HZ.out); have HBa := Lib.hid (HB.out.trans (hb1.mono hzc)); have hz1 := HBa.out.size; have hz1' := hb1.size; clear hb1 d0 d1 d2 d3 d4 d5 e0 e1 e2 e3 e4 e5 f0 f1 f2 f3 f4 f5; obtain ⟨d0, d1, d2, d3, d4, d5⟩ := facts6 HYa.out; obtain ⟨q0, q1, q2, q3, q4, q5⟩ := free6 HYa.out; obtain ⟨e0, e1, e2, e3, e4, e5⟩ := facts6 HZa.out; obtain ⟨f0, f1, f2, f3, f4, f5⟩ := free6 HZa.out)
      | (go_at_call 60; refine Calls.mono (texts_some (i := 1) (m := 1) HS.out (by omega) (by omega) HRR.out) ?_; rintro e2 w2 ⟨A, c, rfl, HR, HA, hb2⟩; have HYb := Lib.hid (keep_block hb2 HYa.out); have HZb := Lib.hid (keep_block hb2 HZa.out); have HBb := Lib.hid (HBa.out.trans (hb2.mono hz1)); have hz2 := HBb.out.size; have hz2' := hb2.size; clear d0 d1 d2 d3 d4 d5 q0 q1 q2 q3 q4 q5 e0 e1 e2 e3 e4 e5 f0 f1 f2 f3 f4 f5; obtain ⟨d0, d1, d2, d3, d4, d5⟩ := facts6 HYb.out; obtain ⟨q0, q1, q2, q3, q4, q5⟩ := free6 HYb.out; obtain ⟨e0, e1, e2, e3, e4, e5⟩ := facts6 HZb.out; obtain ⟨f0, f1, f2, f3, f4, f5⟩ := free6 HZb.out))
    obtain ⟨ab, ao, rfl⟩ := HR.out.addr (Nat.zero_lt_one)
    have g1 := HR.out.cell (Nat.zero_lt_one)
    dsimp only [List.getElem_cons_zero] at g1
    rw [Nat.add_zero] at g1
    have hab := HA.out ab ao rfl
    have HZs := Lib.hid (blk_other (i := 1) (v := .string x) (show w.heap.size ≠ b3 by omega) HZb.out)
    have HBs := Lib.hid (show Below w.heap.size w (w2.setCell ⟨b3, 1, none⟩ (.string x)) from HBb.out.setCell (by first | omega | (dsimp only; omega)) _)
    go_wp2
    refine end61 Tryd.results34 ?_ (set6 _ _ _ _ _ _ HZs.out) ?_
    · rfl
    · exact read_out (a := ⟨1, x, [], [], 0, 0⟩) (PA := none) (pc := 0) (IA := none) (ic := 0) (HV.out) (HBs.out) (.inl rfl) (.inl rfl) (fun _ _ h => by cases h) (fun _ _ h => by cases h) (Nat.zero_le _) (Nat.zero_le _) (by show x.size ≤ maxLen; unfold maxLen; omega) (fun _ h => by cases h) (fun _ h => by cases h)
theorem rread_2big (s : ByteArray) (k : Int) (w : World) (hs : s.size ≤ maxLen) (h0 : 1 ≤ s.size) (hk : (byteAt s 0 : Int) = k) (hkk : k = 2) (hbg : 256 < atF s 1) (hn : ¬ atF s 1 < 0) : Calls Tryd.prog 34 #[.string s] w (ReadOut (readB k s) w) := by
  have HK := Lib.hid (show ((s[0]'(by omega)).toNat : Int) = k by rw [← hk, byteAt_eq (by omega)])
  have HS := Lib.hid hs
  have HWK := Lib.hid (show wrap64 k = k by have := byteAt_lt s 0; unfold wrap64; omega)
  have hs' := hs
  unfold maxLen at hs'
  subst hkk
  clear hk hs
  have hu := Tryd.underlying25
  obtain ⟨z, hz⟩ : ∃ z, z = atF s 1 := ⟨_, rfl⟩
  have HZ1 := Lib.hid hz
  have hzn : ¬ z < 0 := by rw [hz]; exact hn
  obtain ⟨n, rfl⟩ : ∃ n : Nat, z = n := ⟨z.toNat, by omega⟩
  clear hzn
  have hnn : (atF s 1).toNat = n := by rw [← hz]; rfl
  have hnl0 := (atF_le s 1).2
  rw [← hz] at hnl0
  have hnl : n < 65536 := by omega
  clear hnl0
  have hb256 : 256 < n := by have := hbg; rw [← hz] at this; omega
  have HV := Lib.hid (show readB 2 s = ⟨2, ⟨#[]⟩, [], [], 0, 0⟩ by unfold readB; rw [if_neg hn, if_neg (by decide), if_pos rfl, if_pos hbg])
  clear hz hn hnn
  go_enter Tryd.func34, Tryd.ntmps34
  go_upto_region 1 with fail
  go_cut [3] (fun s3 wx => ∃ b3 : Nat, s3 = .pointer (some ⟨b3, 0, none⟩) ∧ w.heap.size < b3 ∧ RowKit.Hid (wx.heap[w.heap.size]? = some (.cells #[.int .i64 0, .string ⟨#[]⟩, .slice none 0 0, .slice none 0 0, .int .i64 0, .int .i64 0] 27 (0, 0))) ∧ RowKit.Hid (wx.heap[b3]? = some (.cells #[.int .i64 2, .string ⟨#[]⟩, .slice none 0 0, .slice none 0 0, .int .i64 0, .int .i64 0] 27 (0, 0))) ∧ RowKit.Hid (Below w.heap.size w wx))
  case first =>
    go_wp2
    go_meet
    simp only [HK.out, HWK.out]
    exact read_first w _
  case rest =>
    obtain ⟨b3, rfl, hb3, HZ, HY, HB⟩ := hcut
    have hzc := HB.out.size
    have hb3c := lt_of_block HY.out
    obtain ⟨d0, d1, d2, d3, d4, d5⟩ := facts6 HY.out
    obtain ⟨e0, e1, e2, e3, e4, e5⟩ := facts6 HZ.out
    obtain ⟨f0, f1, f2, f3, f4, f5⟩ := free6 HZ.out
    go_wp2_with (go_at_call 59; refine Calls.mono (at_is s 1 _ HS.out (by omega)) ?_; rintro e w1 ⟨rfl, hb1⟩; rw [← HZ1.out]; have HYa := Lib.hid (keep_block hb1 HY.out); have HZa := Lib.hid (keep_block hb1 HZ.out); have HBa := Lib.hid (HB.out.trans (hb1.mono hzc)); have hz1 := HBa.out.size; have hz1' := hb1.size; clear hb1 d0 d1 d2 d3 d4 d5 e0 e1 e2 e3 e4 e5 f0 f1 f2 f3 f4 f5; obtain ⟨d0, d1, d2, d3, d4, d5⟩ := facts6 HYa.out; obtain ⟨q0, q1, q2, q3, q4, q5⟩ := free6 HYa.out; obtain ⟨e0, e1, e2, e3, e4, e5⟩ := facts6 HZa.out; obtain ⟨f0, f1, f2, f3, f4, f5⟩ := free6 HZa.out)
    refine end61 Tryd.results34 ?_ (set6 _ _ _ _ _ _ HZa.out) ?_
    · rfl
    · exact read_out (a := ⟨2, ⟨#[]⟩, [], [], 0, 0⟩) (PA := none) (pc := 0) (IA := none) (ic := 0) (HV.out) (HBa.out) (.inl rfl) (.inl rfl) (fun _ _ h => by cases h) (fun _ _ h => by cases h) (Nat.zero_le _) (Nat.zero_le _) (Nat.zero_le _) (fun _ h => by cases h) (fun _ h => by cases h)
theorem rread_3big (s : ByteArray) (k : Int) (w : World) (hs : s.size ≤ maxLen) (h0 : 1 ≤ s.size) (hk : (byteAt s 0 : Int) = k) (hkk : k = 3) (hbg : 256 < atF s 1) (hn : ¬ atF s 1 < 0) : Calls Tryd.prog 34 #[.string s] w (ReadOut (readB k s) w) := by
  have HK := Lib.hid (show ((s[0]'(by omega)).toNat : Int) = k by rw [← hk, byteAt_eq (by omega)])
  have HS := Lib.hid hs
  have HWK := Lib.hid (show wrap64 k = k by have := byteAt_lt s 0; unfold wrap64; omega)
  have hs' := hs
  unfold maxLen at hs'
  subst hkk
  clear hk hs
  have hu := Tryd.underlying25
  obtain ⟨z, hz⟩ : ∃ z, z = atF s 1 := ⟨_, rfl⟩
  have HZ1 := Lib.hid hz
  have hzn : ¬ z < 0 := by rw [hz]; exact hn
  obtain ⟨n, rfl⟩ : ∃ n : Nat, z = n := ⟨z.toNat, by omega⟩
  clear hzn
  have hnn : (atF s 1).toNat = n := by rw [← hz]; rfl
  have hnl0 := (atF_le s 1).2
  rw [← hz] at hnl0
  have hnl : n < 65536 := by omega
  clear hnl0
  have hb256 : 256 < n := by have := hbg; rw [← hz] at this; omega
  have HV := Lib.hid (show readB 3 s = ⟨3, ⟨#[]⟩, [], [], 0, 0⟩ by unfold readB; rw [if_neg hn, if_neg (by decide), if_neg (by decide), if_pos (by decide), if_pos hbg])
  clear hz hn hnn
  go_enter Tryd.func34, Tryd.ntmps34
  go_upto_region 1 with fail
  go_cut [3] (fun s3 wx => ∃ b3 : Nat, s3 = .pointer (some ⟨b3, 0, none⟩) ∧ w.heap.size < b3 ∧ RowKit.Hid (wx.heap[w.heap.size]? = some (.cells #[.int .i64 0, .string ⟨#[]⟩, .slice none 0 0, .slice none 0 0, .int .i64 0, .int .i64 0] 27 (0, 0))) ∧ RowKit.Hid (wx.heap[b3]? = some (.cells #[.int .i64 3, .string ⟨#[]⟩, .slice none 0 0, .slice none 0 0, .int .i64 0, .int .i64 0] 27 (0, 0))) ∧ RowKit.Hid (Below w.heap.size w wx))
  case first =>
    go_wp2
    go_meet
    simp only [HK.out, HWK.out]
    exact read_first w _
  case rest =>
    obtain ⟨b3, rfl, hb3, HZ, HY, HB⟩ := hcut
    have hzc := HB.out.size
    have hb3c := lt_of_block HY.out
    obtain ⟨d0, d1, d2, d3, d4, d5⟩ := facts6 HY.out
    obtain ⟨e0, e1, e2, e3, e4, e5⟩ := facts6 HZ.out
    obtain ⟨f0, f1, f2, f3, f4, f5⟩ := free6 HZ.out
    go_wp2_with (go_at_call 59; refine Calls.mono (at_is s 1 _ HS.out (by omega)) ?_; rintro e w1 ⟨rfl, hb1⟩; rw [← HZ1.out]; have HYa := Lib.hid (keep_block hb1 HY.out); have HZa := Lib.hid (keep_block hb1 HZ.out); have HBa := Lib.hid (HB.out.trans (hb1.mono hzc)); have hz1 := HBa.out.size; have hz1' := hb1.size; clear hb1 d0 d1 d2 d3 d4 d5 e0 e1 e2 e3 e4 e5 f0 f1 f2 f3 f4 f5; obtain ⟨d0, d1, d2, d3, d4, d5⟩ := facts6 HYa.out; obtain ⟨q0, q1, q2, q3, q4, q5⟩ := free6 HYa.out; obtain ⟨e0, e1, e2, e3, e4, e5⟩ := facts6 HZa.out; obtain ⟨f0, f1, f2, f3, f4, f5⟩ := free6 HZa.out)
    refine end61 Tryd.results34 ?_ (set6 _ _ _ _ _ _ HZa.out) ?_
    · rfl
    · exact read_out (a := ⟨3, ⟨#[]⟩, [], [], 0, 0⟩) (PA := none) (pc := 0) (IA := none) (ic := 0) (HV.out) (HBa.out) (.inl rfl) (.inl rfl) (fun _ _ h => by cases h) (fun _ _ h => by cases h) (Nat.zero_le _) (Nat.zero_le _) (Nat.zero_le _) (fun _ h => by cases h) (fun _ h => by cases h)
theorem rread_4big (s : ByteArray) (k : Int) (w : World) (hs : s.size ≤ maxLen) (h0 : 1 ≤ s.size) (hk : (byteAt s 0 : Int) = k) (hkk : k = 4) (hbg : 256 < atF s 1) (hn : ¬ atF s 1 < 0) : Calls Tryd.prog 34 #[.string s] w (ReadOut (readB k s) w) := by
  have HK := Lib.hid (show ((s[0]'(by omega)).toNat : Int) = k by rw [← hk, byteAt_eq (by omega)])
  have HS := Lib.hid hs
  have HWK := Lib.hid (show wrap64 k = k by have := byteAt_lt s 0; unfold wrap64; omega)
  have hs' := hs
  unfold maxLen at hs'
  subst hkk
  clear hk hs
  have hu := Tryd.underlying25
  obtain ⟨z, hz⟩ : ∃ z, z = atF s 1 := ⟨_, rfl⟩
  have HZ1 := Lib.hid hz
  have hzn : ¬ z < 0 := by rw [hz]; exact hn
  obtain ⟨n, rfl⟩ : ∃ n : Nat, z = n := ⟨z.toNat, by omega⟩
  clear hzn
  have hnn : (atF s 1).toNat = n := by rw [← hz]; rfl
  have hnl0 := (atF_le s 1).2
  rw [← hz] at hnl0
  have hnl : n < 65536 := by omega
  clear hnl0
  have hb256 : 256 < n := by have := hbg; rw [← hz] at this; omega
  have HV := Lib.hid (show readB 4 s = ⟨4, ⟨#[]⟩, [], [], 0, 0⟩ by unfold readB; rw [if_neg hn, if_neg (by decide), if_neg (by decide), if_pos (by decide), if_pos hbg])
  clear hz hn hnn
  go_enter Tryd.func34, Tryd.ntmps34
  go_upto_region 1 with fail
  go_cut [3] (fun s3 wx => ∃ b3 : Nat, s3 = .pointer (some ⟨b3, 0, none⟩) ∧ w.heap.size < b3 ∧ RowKit.Hid (wx.heap[w.heap.size]? = some (.cells #[.int .i64 0, .string ⟨#[]⟩, .slice none 0 0, .slice none 0 0, .int .i64 0, .int .i64 0] 27 (0, 0))) ∧ RowKit.Hid (wx.heap[b3]? = some (.cells #[.int .i64 4, .string ⟨#[]⟩, .slice none 0 0, .slice none 0 0, .int .i64 0, .int .i64 0] 27 (0, 0))) ∧ RowKit.Hid (Below w.heap.size w wx))
  case first =>
    go_wp2
    go_meet
    simp only [HK.out, HWK.out]
    exact read_first w _
  case rest =>
    obtain ⟨b3, rfl, hb3, HZ, HY, HB⟩ := hcut
    have hzc := HB.out.size
    have hb3c := lt_of_block HY.out
    obtain ⟨d0, d1, d2, d3, d4, d5⟩ := facts6 HY.out
    obtain ⟨e0, e1, e2, e3, e4, e5⟩ := facts6 HZ.out
    obtain ⟨f0, f1, f2, f3, f4, f5⟩ := free6 HZ.out
    go_wp2_with (go_at_call 59; refine Calls.mono (at_is s 1 _ HS.out (by omega)) ?_; rintro e w1 ⟨rfl, hb1⟩; rw [← HZ1.out]; have HYa := Lib.hid (keep_block hb1 HY.out); have HZa := Lib.hid (keep_block hb1 HZ.out); have HBa := Lib.hid (HB.out.trans (hb1.mono hzc)); have hz1 := HBa.out.size; have hz1' := hb1.size; clear hb1 d0 d1 d2 d3 d4 d5 e0 e1 e2 e3 e4 e5 f0 f1 f2 f3 f4 f5; obtain ⟨d0, d1, d2, d3, d4, d5⟩ := facts6 HYa.out; obtain ⟨q0, q1, q2, q3, q4, q5⟩ := free6 HYa.out; obtain ⟨e0, e1, e2, e3, e4, e5⟩ := facts6 HZa.out; obtain ⟨f0, f1, f2, f3, f4, f5⟩ := free6 HZa.out)
    refine end61 Tryd.results34 ?_ (set6 _ _ _ _ _ _ HZa.out) ?_
    · rfl
    · exact read_out (a := ⟨4, ⟨#[]⟩, [], [], 0, 0⟩) (PA := none) (pc := 0) (IA := none) (ic := 0) (HV.out) (HBa.out) (.inl rfl) (.inl rfl) (fun _ _ h => by cases h) (fun _ _ h => by cases h) (Nat.zero_le _) (Nat.zero_le _) (Nat.zero_le _) (fun _ h => by cases h) (fun _ h => by cases h)
theorem rread_5no (s : ByteArray) (k : Int) (w : World) (hs : s.size ≤ maxLen) (h0 : 1 ≤ s.size) (hk : (byteAt s 0 : Int) = k) (hkk : k = 5) (h9 : ¬ s.size = 9) (hn : ¬ atF s 1 < 0) : Calls Tryd.prog 34 #[.string s] w (ReadOut (readB k s) w) := by
  have HK := Lib.hid (show ((s[0]'(by omega)).toNat : Int) = k by rw [← hk, byteAt_eq (by omega)])
  have HS := Lib.hid hs
  have HWK := Lib.hid (show wrap64 k = k by have := byteAt_lt s 0; unfold wrap64; omega)
  have hs' := hs
  unfold maxLen at hs'
  subst hkk
  clear hk hs
  have hu := Tryd.underlying25
  obtain ⟨z, hz⟩ : ∃ z, z = atF s 1 := ⟨_, rfl⟩
  have HZ1 := Lib.hid hz
  have hzn : ¬ z < 0 := by rw [hz]; exact hn
  obtain ⟨n, rfl⟩ : ∃ n : Nat, z = n := ⟨z.toNat, by omega⟩
  clear hzn
  have hnn : (atF s 1).toNat = n := by rw [← hz]; rfl
  have hnl0 := (atF_le s 1).2
  rw [← hz] at hnl0
  have hnl : n < 65536 := by omega
  clear hnl0
  have HV := Lib.hid (show readB 5 s = ⟨5, ⟨#[]⟩, [], [], 0, 0⟩ by unfold readB; rw [if_neg hn, if_neg (by decide), if_neg (by decide), if_neg (by decide), if_pos rfl, if_neg h9])
  clear hz hn hnn
  go_enter Tryd.func34, Tryd.ntmps34
  go_upto_region 1 with fail
  go_cut [3] (fun s3 wx => ∃ b3 : Nat, s3 = .pointer (some ⟨b3, 0, none⟩) ∧ w.heap.size < b3 ∧ RowKit.Hid (wx.heap[w.heap.size]? = some (.cells #[.int .i64 0, .string ⟨#[]⟩, .slice none 0 0, .slice none 0 0, .int .i64 0, .int .i64 0] 27 (0, 0))) ∧ RowKit.Hid (wx.heap[b3]? = some (.cells #[.int .i64 5, .string ⟨#[]⟩, .slice none 0 0, .slice none 0 0, .int .i64 0, .int .i64 0] 27 (0, 0))) ∧ RowKit.Hid (Below w.heap.size w wx))
  case first =>
    go_wp2
    go_meet
    simp only [HK.out, HWK.out]
    exact read_first w _
  case rest =>
    obtain ⟨b3, rfl, hb3, HZ, HY, HB⟩ := hcut
    have hzc := HB.out.size
    have hb3c := lt_of_block HY.out
    obtain ⟨d0, d1, d2, d3, d4, d5⟩ := facts6 HY.out
    obtain ⟨e0, e1, e2, e3, e4, e5⟩ := facts6 HZ.out
    obtain ⟨f0, f1, f2, f3, f4, f5⟩ := free6 HZ.out
    go_wp2_with (go_at_call 59; refine Calls.mono (at_is s 1 _ HS.out (by omega)) ?_; rintro e w1 ⟨rfl, hb1⟩; rw [← HZ1.out]; have HYa := Lib.hid (keep_block hb1 HY.out); have HZa := Lib.hid (keep_block hb1 HZ.out); have HBa := Lib.hid (HB.out.trans (hb1.mono hzc)); have hz1 := HBa.out.size; have hz1' := hb1.size; clear hb1 d0 d1 d2 d3 d4 d5 e0 e1 e2 e3 e4 e5 f0 f1 f2 f3 f4 f5; obtain ⟨d0, d1, d2, d3, d4, d5⟩ := facts6 HYa.out; obtain ⟨q0, q1, q2, q3, q4, q5⟩ := free6 HYa.out; obtain ⟨e0, e1, e2, e3, e4, e5⟩ := facts6 HZa.out; obtain ⟨f0, f1, f2, f3, f4, f5⟩ := free6 HZa.out)
    refine end61 Tryd.results34 ?_ (set6 _ _ _ _ _ _ HZa.out) ?_
    · rfl
    · exact read_out (a := ⟨5, ⟨#[]⟩, [], [], 0, 0⟩) (PA := none) (pc := 0) (IA := none) (ic := 0) (HV.out) (HBa.out) (.inl rfl) (.inl rfl) (fun _ _ h => by cases h) (fun _ _ h => by cases h) (Nat.zero_le _) (Nat.zero_le _) (Nat.zero_le _) (fun _ h => by cases h) (fun _ h => by cases h)
theorem rread_o (s : ByteArray) (k : Int) (w : World) (hs : s.size ≤ maxLen) (h0 : 1 ≤ s.size) (hk : (byteAt s 0 : Int) = k) (hkk : ¬ k = 1 ∧ ¬ k = 2 ∧ ¬ k = 3 ∧ ¬ k = 4 ∧ ¬ k = 5) (hn : ¬ atF s 1 < 0) : Calls Tryd.prog 34 #[.string s] w (ReadOut (readB k s) w) := by
  have HK := Lib.hid (show ((s[0]'(by omega)).toNat : Int) = k by rw [← hk, byteAt_eq (by omega)])
  have HS := Lib.hid hs
  have HWK := Lib.hid (show wrap64 k = k by have := byteAt_lt s 0; unfold wrap64; omega)
  have hs' := hs
  unfold maxLen at hs'
  obtain ⟨k1, k2, k3, k4, k5⟩ := hkk
  have m1 : (k == 1) = false := by simp [k1]
  have m2 : (k == 2) = false := by simp [k2]
  have m3 : (k == 3) = false := by simp [k3]
  have m4 : (k == 4) = false := by simp [k4]
  have m5 : (k == 5) = false := by simp [k5]
  clear hk hs
  have hu := Tryd.underlying25
  obtain ⟨z, hz⟩ : ∃ z, z = atF s 1 := ⟨_, rfl⟩
  have HZ1 := Lib.hid hz
  have hzn : ¬ z < 0 := by rw [hz]; exact hn
  obtain ⟨n, rfl⟩ : ∃ n : Nat, z = n := ⟨z.toNat, by omega⟩
  clear hzn
  have hnn : (atF s 1).toNat = n := by rw [← hz]; rfl
  have hnl0 := (atF_le s 1).2
  rw [← hz] at hnl0
  have hnl : n < 65536 := by omega
  clear hnl0
  have HV := Lib.hid (show readB k s = ⟨k, ⟨#[]⟩, [], [], 0, 0⟩ by unfold readB; rw [if_neg hn, if_neg k1, if_neg k2, if_neg (by omega), if_neg k5])
  clear hz hn hnn
  go_enter Tryd.func34, Tryd.ntmps34
  go_upto_region 1 with fail
  go_cut [3] (fun s3 wx => ∃ b3 : Nat, s3 = .pointer (some ⟨b3, 0, none⟩) ∧ w.heap.size < b3 ∧ RowKit.Hid (wx.heap[w.heap.size]? = some (.cells #[.int .i64 0, .string ⟨#[]⟩, .slice none 0 0, .slice none 0 0, .int .i64 0, .int .i64 0] 27 (0, 0))) ∧ RowKit.Hid (wx.heap[b3]? = some (.cells #[.int .i64 k, .string ⟨#[]⟩, .slice none 0 0, .slice none 0 0, .int .i64 0, .int .i64 0] 27 (0, 0))) ∧ RowKit.Hid (Below w.heap.size w wx))
  case first =>
    go_wp2
    go_meet
    simp only [HK.out, HWK.out]
    exact read_first w _
  case rest =>
    obtain ⟨b3, rfl, hb3, HZ, HY, HB⟩ := hcut
    have hzc := HB.out.size
    have hb3c := lt_of_block HY.out
    obtain ⟨d0, d1, d2, d3, d4, d5⟩ := facts6 HY.out
    obtain ⟨e0, e1, e2, e3, e4, e5⟩ := facts6 HZ.out
    obtain ⟨f0, f1, f2, f3, f4, f5⟩ := free6 HZ.out
    go_wp2_with (go_at_call 59; refine Calls.mono (at_is s 1 _ HS.out (by omega)) ?_; rintro e w1 ⟨rfl, hb1⟩; rw [← HZ1.out]; have HYa := Lib.hid (keep_block hb1 HY.out); have HZa := Lib.hid (keep_block hb1 HZ.out); have HBa := Lib.hid (HB.out.trans (hb1.mono hzc)); have hz1 := HBa.out.size; have hz1' := hb1.size; clear hb1 d0 d1 d2 d3 d4 d5 e0 e1 e2 e3 e4 e5 f0 f1 f2 f3 f4 f5; obtain ⟨d0, d1, d2, d3, d4, d5⟩ := facts6 HYa.out; obtain ⟨q0, q1, q2, q3, q4, q5⟩ := free6 HYa.out; obtain ⟨e0, e1, e2, e3, e4, e5⟩ := facts6 HZa.out; obtain ⟨f0, f1, f2, f3, f4, f5⟩ := free6 HZa.out)
    refine end61 Tryd.results34 ?_ (set6 _ _ _ _ _ _ HZa.out) ?_
    · rfl
    · exact read_out (a := ⟨k, ⟨#[]⟩, [], [], 0, 0⟩) (PA := none) (pc := 0) (IA := none) (ic := 0) (HV.out) (HBa.out) (.inl rfl) (.inl rfl) (fun _ _ h => by cases h) (fun _ _ h => by cases h) (Nat.zero_le _) (Nat.zero_le _) (Nat.zero_le _) (fun _ h => by cases h) (fun _ h => by cases h)
theorem rread_3none (s : ByteArray) (k : Int) (w : World) (hs : s.size ≤ maxLen) (h0 : 1 ≤ s.size) (hk : (byteAt s 0 : Int) = k) (hkk : k = 3) (hsm : ¬ 256 < atF s 1) (hr : txF s 3 (atF s 1).toNat = none) (hn : ¬ atF s 1 < 0) : Calls Tryd.prog 34 #[.string s] w (ReadOut (readB k s) w) := by
  have HK := Lib.hid (show ((s[0]'(by omega)).toNat : Int) = k by rw [← hk, byteAt_eq (by omega)])
  have HS := Lib.hid hs
  have HWK := Lib.hid (show wrap64 k = k by have := byteAt_lt s 0; unfold wrap64; omega)
  have hs' := hs
  unfold maxLen at hs'
  subst hkk
  clear hk hs
  have hu := Tryd.underlying25
  obtain ⟨z, hz⟩ : ∃ z, z = atF s 1 := ⟨_, rfl⟩
  have HZ1 := Lib.hid hz
  have hzn : ¬ z < 0 := by rw [hz]; exact hn
  obtain ⟨n, rfl⟩ : ∃ n : Nat, z = n := ⟨z.toNat, by omega⟩
  clear hzn
  have hnn : (atF s 1).toNat = n := by rw [← hz]; rfl
  have hnl0 := (atF_le s 1).2
  rw [← hz] at hnl0
  have hnl : n < 65536 := by omega
  clear hnl0
  have hn256 : n ≤ 256 := by have := hsm; rw [← hz] at this; omega
  have hn256' : ¬ (256 < n) := by omega
  rw [hnn] at hr
  have HV := Lib.hid (show readB 3 s = ⟨3, ⟨#[]⟩, [], [], 0, 0⟩ by unfold readB; rw [if_neg hn, if_neg (by decide), if_neg (by decide), if_pos (by decide), if_neg hsm, hnn, hr]; rfl)
  have HRR := Lib.hid hr
  clear hz hn hsm hr hnn
  go_enter Tryd.func34, Tryd.ntmps34
  go_upto_region 1 with fail
  go_cut [3] (fun s3 wx => ∃ b3 : Nat, s3 = .pointer (some ⟨b3, 0, none⟩) ∧ w.heap.size < b3 ∧ RowKit.Hid (wx.heap[w.heap.size]? = some (.cells #[.int .i64 0, .string ⟨#[]⟩, .slice none 0 0, .slice none 0 0, .int .i64 0, .int .i64 0] 27 (0, 0))) ∧ RowKit.Hid (wx.heap[b3]? = some (.cells #[.int .i64 3, .string ⟨#[]⟩, .slice none 0 0, .slice none 0 0, .int .i64 0, .int .i64 0] 27 (0, 0))) ∧ RowKit.Hid (Below w.heap.size w wx))
  case first =>
    go_wp2
    go_meet
    simp only [HK.out, HWK.out]
    exact read_first w _
  case rest =>
    obtain ⟨b3, rfl, hb3, HZ, HY, HB⟩ := hcut
    have hzc := HB.out.size
    have hb3c := lt_of_block HY.out
    obtain ⟨d0, d1, d2, d3, d4, d5⟩ := facts6 HY.out
    obtain ⟨e0, e1, e2, e3, e4, e5⟩ := facts6 HZ.out
    obtain ⟨f0, f1, f2, f3, f4, f5⟩ := free6 HZ.out
    go_wp2_with (first
      | (go_at_call 59; refine Calls.mono (at_is s 1 _ HS.out (by omega)) ?_; rintro e w1 ⟨rfl, hb1⟩; rw [← HZ1.out]; have HYa := Lib.hid (keep_block hb1 HY.out); have HZa := Lib.hid (keep_block hb1 HZ.out); have HBa := Lib.hid (HB.out.trans (hb1.mono hzc)); have hz1 := HBa.out.size; have hz1' := hb1.size; clear hb1 d0 d1 d2 d3 d4 d5 e0 e1 e2 e3 e4 e5 f0 f1 f2 f3 f4 f5; obtain ⟨d0, d1, d2, d3, d4, d5⟩ := facts6 HYa.out; obtain ⟨q0, q1, q2, q3, q4, q5⟩ := free6 HYa.out; obtain ⟨e0, e1, e2, e3, e4, e5⟩ := facts6 HZa.out; obtain ⟨f0, f1, f2, f3, f4, f5⟩ := free6 HZa.out)
      | (go_at_call 60; refine Calls.mono (texts_none (i := 3) (m := n) HS.out (by omega) (by omega) HRR.out) ?_; rintro e2 w2 ⟨A, c, rfl, HA, hb2⟩; have HYb := Lib.hid (keep_block hb2 HYa.out); have HZb := Lib.hid (keep_block hb2 HZa.out); have HBb := Lib.hid (HBa.out.trans (hb2.mono hz1)); have hz2 := HBb.out.size; have hz2' := hb2.size; clear d0 d1 d2 d3 d4 d5 q0 q1 q2 q3 q4 q5 e0 e1 e2 e3 e4 e5 f0 f1 f2 f3 f4 f5; obtain ⟨d0, d1, d2, d3, d4, d5⟩ := facts6 HYb.out; obtain ⟨q0, q1, q2, q3, q4, q5⟩ := free6 HYb.out; obtain ⟨e0, e1, e2, e3, e4, e5⟩ := facts6 HZb.out; obtain ⟨f0, f1, f2, f3, f4, f5⟩ := free6 HZb.out))
    have HZs := Lib.hid (blk_other (i := 3) (v := .slice A 0 c) (show w.heap.size ≠ b3 by omega) HZb.out)
    have HBs := Lib.hid (show Below w.heap.size w (w2.setCell ⟨b3, 3, none⟩ (.slice A 0 c)) from HBb.out.setCell (by first | omega | (dsimp only; omega)) _)
    refine end61 Tryd.results34 ?_ (set6 _ _ _ _ _ _ HZs.out) ?_
    · rfl
    · exact read_out (a := ⟨3, ⟨#[]⟩, [], [], 0, 0⟩) (PA := none) (pc := 0) (IA := A) (ic := c) (HV.out) (HBs.out) (.inl rfl) (.inl rfl) (fun _ _ h => by cases h) (fun b off e => by have := HA.out b off e; omega) (Nat.zero_le _) (Nat.zero_le _) (Nat.zero_le _) (fun _ h => by cases h) (fun _ h => by cases h)
theorem rread_3some (s : ByteArray) (k : Int) (w : World) (hs : s.size ≤ maxLen) (h0 : 1 ≤ s.size) (hk : (byteAt s 0 : Int) = k) (hkk : k = 3) (hsm : ¬ 256 < atF s 1) (l : List ByteArray) (e : Nat) (hr : txF s 3 (atF s 1).toNat = some (l, e)) (hn : ¬ atF s 1 < 0) : Calls Tryd.prog 34 #[.string s] w (ReadOut (readB k s) w) := by
  have HK := Lib.hid (show ((s[0]'(by omega)).toNat : Int) = k by rw [← hk, byteAt_eq (by omega)])
  have HS := Lib.hid hs
  have HWK := Lib.hid (show wrap64 k = k by have := byteAt_lt s 0; unfold wrap64; omega)
  have hs' := hs
  unfold maxLen at hs'
  subst hkk
  clear hk hs
  have hu := Tryd.underlying25
  obtain ⟨z, hz⟩ : ∃ z, z = atF s 1 := ⟨_, rfl⟩
  have HZ1 := Lib.hid hz
  have hzn : ¬ z < 0 := by rw [hz]; exact hn
  obtain ⟨n, rfl⟩ : ∃ n : Nat, z = n := ⟨z.toNat, by omega⟩
  clear hzn
  have hnn : (atF s 1).toNat = n := by rw [← hz]; rfl
  have hnl0 := (atF_le s 1).2
  rw [← hz] at hnl0
  have hnl : n < 65536 := by omega
  clear hnl0
  have hn256 : n ≤ 256 := by have := hsm; rw [← hz] at this; omega
  have hn256' : ¬ (256 < n) := by omega
  rw [hnn] at hr
  have HV := Lib.hid (show readB 3 s = ⟨3, ⟨#[]⟩, [], l, 0, 0⟩ by unfold readB; rw [if_neg hn, if_neg (by decide), if_neg (by decide), if_pos (by decide), if_neg hsm, hnn, hr]; rfl)
  have HRR := Lib.hid hr
  clear hz hn hsm hr hnn
  go_enter Tryd.func34, Tryd.ntmps34
  go_upto_region 1 with fail
  go_cut [3] (fun s3 wx => ∃ b3 : Nat, s3 = .pointer (some ⟨b3, 0, none⟩) ∧ w.heap.size < b3 ∧ RowKit.Hid (wx.heap[w.heap.size]? = some (.cells #[.int .i64 0, .string ⟨#[]⟩, .slice none 0 0, .slice none 0 0, .int .i64 0, .int .i64 0] 27 (0, 0))) ∧ RowKit.Hid (wx.heap[b3]? = some (.cells #[.int .i64 3, .string ⟨#[]⟩, .slice none 0 0, .slice none 0 0, .int .i64 0, .int .i64 0] 27 (0, 0))) ∧ RowKit.Hid (Below w.heap.size w wx))
  case first =>
    go_wp2
    go_meet
    simp only [HK.out, HWK.out]
    exact read_first w _
  case rest =>
    obtain ⟨b3, rfl, hb3, HZ, HY, HB⟩ := hcut
    have hzc := HB.out.size
    have hb3c := lt_of_block HY.out
    obtain ⟨d0, d1, d2, d3, d4, d5⟩ := facts6 HY.out
    obtain ⟨e0, e1, e2, e3, e4, e5⟩ := facts6 HZ.out
    obtain ⟨f0, f1, f2, f3, f4, f5⟩ := free6 HZ.out
    have hle := (txF_len HRR.out).1
    have hszs := Lib.hid (txF_size HRR.out)
    dsimp only at hle
    have HLE := Lib.hid hle
    clear hle
    go_wp2_with (first
      | (go_at_call 59; refine Calls.mono (at_is s 1 _ HS.out (by omega)) ?_; rintro e w1 ⟨rfl, hb1⟩; rw [← HZ1.out]; have HYa := Lib.hid (keep_block hb1 HY.out); have HZa := Lib.hid (keep_block hb1 HZ.out); have HBa := Lib.hid (HB.out.trans (hb1.mono hzc)); have hz1 := HBa.out.size; have hz1' := hb1.size; clear hb1 d0 d1 d2 d3 d4 d5 e0 e1 e2 e3 e4 e5 f0 f1 f2 f3 f4 f5; obtain ⟨d0, d1, d2, d3, d4, d5⟩ := facts6 HYa.out; obtain ⟨q0, q1, q2, q3, q4, q5⟩ := free6 HYa.out; obtain ⟨e0, e1, e2, e3, e4, e5⟩ := facts6 HZa.out; obtain ⟨f0, f1, f2, f3, f4, f5⟩ := free6 HZa.out)
      | (go_at_call 60; refine Calls.mono (texts_some (i := 3) (m := n) HS.out (by omega) (by omega) HRR.out) ?_; rintro e2 w2 ⟨A, c, rfl, HR, HA, hb2⟩; have HYb := Lib.hid (keep_block hb2 HYa.out); have HZb := Lib.hid (keep_block hb2 HZa.out); have HBb := Lib.hid (HBa.out.trans (hb2.mono hz1)); have hz2 := HBb.out.size; have hz2' := hb2.size; clear d0 d1 d2 d3 d4 d5 q0 q1 q2 q3 q4 q5 e0 e1 e2 e3 e4 e5 f0 f1 f2 f3 f4 f5; obtain ⟨d0, d1, d2, d3, d4, d5⟩ := facts6 HYb.out; obtain ⟨q0, q1, q2, q3, q4, q5⟩ := free6 HYb.out; obtain ⟨e0, e1, e2, e3, e4, e5⟩ := facts6 HZb.out; obtain ⟨f0, f1, f2, f3, f4, f5⟩ := free6 HZb.out))
    have HZs := Lib.hid (blk_other (i := 3) (v := .slice A l.length c) (show w.heap.size ≠ b3 by omega) HZb.out)
    have HBs := Lib.hid (show Below w.heap.size w (w2.setCell ⟨b3, 3, none⟩ (.slice A l.length c)) from HBb.out.setCell (by first | omega | (dsimp only; omega)) _)
    refine end61 Tryd.results34 ?_ (set6 _ _ _ _ _ _ HZs.out) ?_
    · rfl
    · exact read_out (a := ⟨3, ⟨#[]⟩, [], l, 0, 0⟩) (PA := none) (pc := 0) (IA := A) (ic := c) (HV.out) (HBs.out) (.inl rfl) (rdblk HR.out (fun b off e => Below.heap_setCell _ _ _ _ (by have := HA.out b off e; dsimp only; omega))) (fun _ _ h => by cases h) (fun b off e => by have := HA.out b off e; omega) (Nat.zero_le _) (by show l.length ≤ maxLen; have := HLE.out; unfold maxLen; omega) (Nat.zero_le _) (fun _ h => by cases h) (fun x hx => Nat.le_trans (hszs.out x hx) HS.out)
theorem rread_4none (s : ByteArray) (k : Int) (w : World) (hs : s.size ≤ maxLen) (h0 : 1 ≤ s.size) (hk : (byteAt s 0 : Int) = k) (hkk : k = 4) (hsm : ¬ 256 < atF s 1) (hr : txF s 3 (atF s 1).toNat = none) (hn : ¬ atF s 1 < 0) : Calls Tryd.prog 34 #[.string s] w (ReadOut (readB k s) w) := by
  have HK := Lib.hid (show ((s[0]'(by omega)).toNat : Int) = k by rw [← hk, byteAt_eq (by omega)])
  have HS := Lib.hid hs
  have HWK := Lib.hid (show wrap64 k = k by have := byteAt_lt s 0; unfold wrap64; omega)
  have hs' := hs
  unfold maxLen at hs'
  subst hkk
  clear hk hs
  have hu := Tryd.underlying25
  obtain ⟨z, hz⟩ : ∃ z, z = atF s 1 := ⟨_, rfl⟩
  have HZ1 := Lib.hid hz
  have hzn : ¬ z < 0 := by rw [hz]; exact hn
  obtain ⟨n, rfl⟩ : ∃ n : Nat, z = n := ⟨z.toNat, by omega⟩
  clear hzn
  have hnn : (atF s 1).toNat = n := by rw [← hz]; rfl
  have hnl0 := (atF_le s 1).2
  rw [← hz] at hnl0
  have hnl : n < 65536 := by omega
  clear hnl0
  have hn256 : n ≤ 256 := by have := hsm; rw [← hz] at this; omega
  have hn256' : ¬ (256 < n) := by omega
  rw [hnn] at hr
  have HV := Lib.hid (show readB 4 s = ⟨4, ⟨#[]⟩, [], [], 0, 0⟩ by unfold readB; rw [if_neg hn, if_neg (by decide), if_neg (by decide), if_pos (by decide), if_neg hsm, hnn, hr]; rfl)
  have HRR := Lib.hid hr
  clear hz hn hsm hr hnn
  go_enter Tryd.func34, Tryd.ntmps34
  go_upto_region 1 with fail
  go_cut [3] (fun s3 wx => ∃ b3 : Nat, s3 = .pointer (some ⟨b3, 0, none⟩) ∧ w.heap.size < b3 ∧ RowKit.Hid (wx.heap[w.heap.size]? = some (.cells #[.int .i64 0, .string ⟨#[]⟩, .slice none 0 0, .slice none 0 0, .int .i64 0, .int .i64 0] 27 (0, 0))) ∧ RowKit.Hid (wx.heap[b3]? = some (.cells #[.int .i64 4, .string ⟨#[]⟩, .slice none 0 0, .slice none 0 0, .int .i64 0, .int .i64 0] 27 (0, 0))) ∧ RowKit.Hid (Below w.heap.size w wx))
  case first =>
    go_wp2
    go_meet
    simp only [HK.out, HWK.out]
    exact read_first w _
  case rest =>
    obtain ⟨b3, rfl, hb3, HZ, HY, HB⟩ := hcut
    have hzc := HB.out.size
    have hb3c := lt_of_block HY.out
    obtain ⟨d0, d1, d2, d3, d4, d5⟩ := facts6 HY.out
    obtain ⟨e0, e1, e2, e3, e4, e5⟩ := facts6 HZ.out
    obtain ⟨f0, f1, f2, f3, f4, f5⟩ := free6 HZ.out
    go_wp2_with (first
      | (go_at_call 59; refine Calls.mono (at_is s 1 _ HS.out (by omega)) ?_; rintro e w1 ⟨rfl, hb1⟩; rw [← HZ1.out]; have HYa := Lib.hid (keep_block hb1 HY.out); have HZa := Lib.hid (keep_block hb1 HZ.out); have HBa := Lib.hid (HB.out.trans (hb1.mono hzc)); have hz1 := HBa.out.size; have hz1' := hb1.size; clear hb1 d0 d1 d2 d3 d4 d5 e0 e1 e2 e3 e4 e5 f0 f1 f2 f3 f4 f5; obtain ⟨d0, d1, d2, d3, d4, d5⟩ := facts6 HYa.out; obtain ⟨q0, q1, q2, q3, q4, q5⟩ := free6 HYa.out; obtain ⟨e0, e1, e2, e3, e4, e5⟩ := facts6 HZa.out; obtain ⟨f0, f1, f2, f3, f4, f5⟩ := free6 HZa.out)
      | (go_at_call 60; refine Calls.mono (texts_none (i := 3) (m := n) HS.out (by omega) (by omega) HRR.out) ?_; rintro e2 w2 ⟨A, c, rfl, HA, hb2⟩; have HYb := Lib.hid (keep_block hb2 HYa.out); have HZb := Lib.hid (keep_block hb2 HZa.out); have HBb := Lib.hid (HBa.out.trans (hb2.mono hz1)); have hz2 := HBb.out.size; have hz2' := hb2.size; clear d0 d1 d2 d3 d4 d5 q0 q1 q2 q3 q4 q5 e0 e1 e2 e3 e4 e5 f0 f1 f2 f3 f4 f5; obtain ⟨d0, d1, d2, d3, d4, d5⟩ := facts6 HYb.out; obtain ⟨q0, q1, q2, q3, q4, q5⟩ := free6 HYb.out; obtain ⟨e0, e1, e2, e3, e4, e5⟩ := facts6 HZb.out; obtain ⟨f0, f1, f2, f3, f4, f5⟩ := free6 HZb.out))
    have HZs := Lib.hid (blk_other (i := 3) (v := .slice A 0 c) (show w.heap.size ≠ b3 by omega) HZb.out)
    have HBs := Lib.hid (show Below w.heap.size w (w2.setCell ⟨b3, 3, none⟩ (.slice A 0 c)) from HBb.out.setCell (by first | omega | (dsimp only; omega)) _)
    refine end61 Tryd.results34 ?_ (set6 _ _ _ _ _ _ HZs.out) ?_
    · rfl
    · exact read_out (a := ⟨4, ⟨#[]⟩, [], [], 0, 0⟩) (PA := none) (pc := 0) (IA := A) (ic := c) (HV.out) (HBs.out) (.inl rfl) (.inl rfl) (fun _ _ h => by cases h) (fun b off e => by have := HA.out b off e; omega) (Nat.zero_le _) (Nat.zero_le _) (Nat.zero_le _) (fun _ h => by cases h) (fun _ h => by cases h)
theorem rread_4some (s : ByteArray) (k : Int) (w : World) (hs : s.size ≤ maxLen) (h0 : 1 ≤ s.size) (hk : (byteAt s 0 : Int) = k) (hkk : k = 4) (hsm : ¬ 256 < atF s 1) (l : List ByteArray) (e : Nat) (hr : txF s 3 (atF s 1).toNat = some (l, e)) (hn : ¬ atF s 1 < 0) : Calls Tryd.prog 34 #[.string s] w (ReadOut (readB k s) w) := by
  have HK := Lib.hid (show ((s[0]'(by omega)).toNat : Int) = k by rw [← hk, byteAt_eq (by omega)])
  have HS := Lib.hid hs
  have HWK := Lib.hid (show wrap64 k = k by have := byteAt_lt s 0; unfold wrap64; omega)
  have hs' := hs
  unfold maxLen at hs'
  subst hkk
  clear hk hs
  have hu := Tryd.underlying25
  obtain ⟨z, hz⟩ : ∃ z, z = atF s 1 := ⟨_, rfl⟩
  have HZ1 := Lib.hid hz
  have hzn : ¬ z < 0 := by rw [hz]; exact hn
  obtain ⟨n, rfl⟩ : ∃ n : Nat, z = n := ⟨z.toNat, by omega⟩
  clear hzn
  have hnn : (atF s 1).toNat = n := by rw [← hz]; rfl
  have hnl0 := (atF_le s 1).2
  rw [← hz] at hnl0
  have hnl : n < 65536 := by omega
  clear hnl0
  have hn256 : n ≤ 256 := by have := hsm; rw [← hz] at this; omega
  have hn256' : ¬ (256 < n) := by omega
  rw [hnn] at hr
  have HV := Lib.hid (show readB 4 s = ⟨4, ⟨#[]⟩, [], l, 0, 0⟩ by unfold readB; rw [if_neg hn, if_neg (by decide), if_neg (by decide), if_pos (by decide), if_neg hsm, hnn, hr]; rfl)
  have HRR := Lib.hid hr
  clear hz hn hsm hr hnn
  go_enter Tryd.func34, Tryd.ntmps34
  go_upto_region 1 with fail
  go_cut [3] (fun s3 wx => ∃ b3 : Nat, s3 = .pointer (some ⟨b3, 0, none⟩) ∧ w.heap.size < b3 ∧ RowKit.Hid (wx.heap[w.heap.size]? = some (.cells #[.int .i64 0, .string ⟨#[]⟩, .slice none 0 0, .slice none 0 0, .int .i64 0, .int .i64 0] 27 (0, 0))) ∧ RowKit.Hid (wx.heap[b3]? = some (.cells #[.int .i64 4, .string ⟨#[]⟩, .slice none 0 0, .slice none 0 0, .int .i64 0, .int .i64 0] 27 (0, 0))) ∧ RowKit.Hid (Below w.heap.size w wx))
  case first =>
    go_wp2
    go_meet
    simp only [HK.out, HWK.out]
    exact read_first w _
  case rest =>
    obtain ⟨b3, rfl, hb3, HZ, HY, HB⟩ := hcut
    have hzc := HB.out.size
    have hb3c := lt_of_block HY.out
    obtain ⟨d0, d1, d2, d3, d4, d5⟩ := facts6 HY.out
    obtain ⟨e0, e1, e2, e3, e4, e5⟩ := facts6 HZ.out
    obtain ⟨f0, f1, f2, f3, f4, f5⟩ := free6 HZ.out
    have hle := (txF_len HRR.out).1
    have hszs := Lib.hid (txF_size HRR.out)
    dsimp only at hle
    have HLE := Lib.hid hle
    clear hle
    go_wp2_with (first
      | (go_at_call 59; refine Calls.mono (at_is s 1 _ HS.out (by omega)) ?_; rintro e w1 ⟨rfl, hb1⟩; rw [← HZ1.out]; have HYa := Lib.hid (keep_block hb1 HY.out); have HZa := Lib.hid (keep_block hb1 HZ.out); have HBa := Lib.hid (HB.out.trans (hb1.mono hzc)); have hz1 := HBa.out.size; have hz1' := hb1.size; clear hb1 d0 d1 d2 d3 d4 d5 e0 e1 e2 e3 e4 e5 f0 f1 f2 f3 f4 f5; obtain ⟨d0, d1, d2, d3, d4, d5⟩ := facts6 HYa.out; obtain ⟨q0, q1, q2, q3, q4, q5⟩ := free6 HYa.out; obtain ⟨e0, e1, e2, e3, e4, e5⟩ := facts6 HZa.out; obtain ⟨f0, f1, f2, f3, f4, f5⟩ := free6 HZa.out)
      | (go_at_call 60; refine Calls.mono (texts_some (i := 3) (m := n) HS.out (by omega) (by omega) HRR.out) ?_; rintro e2 w2 ⟨A, c, rfl, HR, HA, hb2⟩; have HYb := Lib.hid (keep_block hb2 HYa.out); have HZb := Lib.hid (keep_block hb2 HZa.out); have HBb := Lib.hid (HBa.out.trans (hb2.mono hz1)); have hz2 := HBb.out.size; have hz2' := hb2.size; clear d0 d1 d2 d3 d4 d5 q0 q1 q2 q3 q4 q5 e0 e1 e2 e3 e4 e5 f0 f1 f2 f3 f4 f5; obtain ⟨d0, d1, d2, d3, d4, d5⟩ := facts6 HYb.out; obtain ⟨q0, q1, q2, q3, q4, q5⟩ := free6 HYb.out; obtain ⟨e0, e1, e2, e3, e4, e5⟩ := facts6 HZb.out; obtain ⟨f0, f1, f2, f3, f4, f5⟩ := free6 HZb.out))
    have HZs := Lib.hid (blk_other (i := 3) (v := .slice A l.length c) (show w.heap.size ≠ b3 by omega) HZb.out)
    have HBs := Lib.hid (show Below w.heap.size w (w2.setCell ⟨b3, 3, none⟩ (.slice A l.length c)) from HBb.out.setCell (by first | omega | (dsimp only; omega)) _)
    refine end61 Tryd.results34 ?_ (set6 _ _ _ _ _ _ HZs.out) ?_
    · rfl
    · exact read_out (a := ⟨4, ⟨#[]⟩, [], l, 0, 0⟩) (PA := none) (pc := 0) (IA := A) (ic := c) (HV.out) (HBs.out) (.inl rfl) (rdblk HR.out (fun b off e => Below.heap_setCell _ _ _ _ (by have := HA.out b off e; dsimp only; omega))) (fun _ _ h => by cases h) (fun b off e => by have := HA.out b off e; omega) (Nat.zero_le _) (by show l.length ≤ maxLen; have := HLE.out; unfold maxLen; omega) (Nat.zero_le _) (fun _ h => by cases h) (fun x hx => Nat.le_trans (hszs.out x hx) HS.out)
theorem rread_5yes (s : ByteArray) (k : Int) (w : World) (hs : s.size ≤ maxLen) (h0 : 1 ≤ s.size) (hk : (byteAt s 0 : Int) = k) (hkk : k = 5) (h9 : s.size = 9) (hn : ¬ atF s 1 < 0) : Calls Tryd.prog 34 #[.string s] w (ReadOut (readB k s) w) := by
  have HK := Lib.hid (show ((s[0]'(by omega)).toNat : Int) = k by rw [← hk, byteAt_eq (by omega)])
  have HS := Lib.hid hs
  have HWK := Lib.hid (show wrap64 k = k by have := byteAt_lt s 0; unfold wrap64; omega)
  have hs' := hs
  unfold maxLen at hs'
  subst hkk
  clear hk hs
  have hu := Tryd.underlying25
  obtain ⟨z, hz⟩ : ∃ z, z = atF s 1 := ⟨_, rfl⟩
  have HZ1 := Lib.hid hz
  have hzn : ¬ z < 0 := by rw [hz]; exact hn
  obtain ⟨n, rfl⟩ : ∃ n : Nat, z = n := ⟨z.toNat, by omega⟩
  clear hzn
  have hnn : (atF s 1).toNat = n := by rw [← hz]; rfl
  have hnl0 := (atF_le s 1).2
  rw [← hz] at hnl0
  have hnl : n < 65536 := by omega
  clear hnl0
  have HV := Lib.hid (show readB 5 s = ⟨5, ⟨#[]⟩, [], [], sgF s 1, sgF s 5⟩ by unfold readB; rw [if_neg hn, if_neg (by decide), if_neg (by decide), if_neg (by decide), if_pos rfl, if_pos h9])
  obtain ⟨x, hx⟩ : ∃ x, x = sgF s 1 := ⟨_, rfl⟩
  obtain ⟨y, hy⟩ : ∃ y, y = sgF s 5 := ⟨_, rfl⟩
  rw [← hx, ← hy] at HV
  have HX := Lib.hid hx; have HYY := Lib.hid hy
  clear hz hn hx hy hnn
  go_enter Tryd.func34, Tryd.ntmps34
  go_upto_region 1 with fail
  go_cut [3] (fun s3 wx => ∃ b3 : Nat, s3 = .pointer (some ⟨b3, 0, none⟩) ∧ w.heap.size < b3 ∧ RowKit.Hid (wx.heap[w.heap.size]? = some (.cells #[.int .i64 0, .string ⟨#[]⟩, .slice none 0 0, .slice none 0 0, .int .i64 0, .int .i64 0] 27 (0, 0))) ∧ RowKit.Hid (wx.heap[b3]? = some (.cells #[.int .i64 5, .string ⟨#[]⟩, .slice none 0 0, .slice none 0 0, .int .i64 0, .int .i64 0] 27 (0, 0))) ∧ RowKit.Hid (Below w.heap.size w wx))
  case first =>
    go_wp2
    go_meet
    simp only [HK.out, HWK.out]
    exact read_first w _
  case rest =>
    obtain ⟨b3, rfl, hb3, HZ, HY, HB⟩ := hcut
    have hzc := HB.out.size
    have hb3c := lt_of_block HY.out
    obtain ⟨d0, d1, d2, d3, d4, d5⟩ := facts6 HY.out
    obtain ⟨e0, e1, e2, e3, e4, e5⟩ := facts6 HZ.out
    obtain ⟨f0, f1, f2, f3, f4, f5⟩ := free6 HZ.out
    go_wp2_with (first
      | (go_at_call 59; refine Calls.mono (at_is s 1 _ HS.out (by omega)) ?_; rintro e w1 ⟨rfl, hb1⟩; rw [← HZ1.out]; have HYa := Lib.hid (keep_block hb1 HY.out); have HZa := Lib.hid (keep_block hb1 HZ.out); have HBa := Lib.hid (HB.out.trans (hb1.mono hzc)); have hz1 := HBa.out.size; have hz1' := hb1.size; clear hb1 d0 d1 d2 d3 d4 d5 e0 e1 e2 e3 e4 e5 f0 f1 f2 f3 f4 f5; obtain ⟨d0, d1, d2, d3, d4, d5⟩ := facts6 HYa.out; obtain ⟨q0, q1, q2, q3, q4, q5⟩ := free6 HYa.out; obtain ⟨e0, e1, e2, e3, e4, e5⟩ := facts6 HZa.out; obtain ⟨f0, f1, f2, f3, f4, f5⟩ := free6 HZa.out)
      | ((fail_if_success (have := HYb)); go_at_call 61; refine Calls.mono (signed_is s 1 _ HS.out (by omega)) ?_; rintro e2 w2 ⟨rfl, hb2⟩; rw [← HX.out]; have HYb := Lib.hid (keep_block hb2 HYa.out); have HZb := Lib.hid (keep_block hb2 HZa.out); have HBb := Lib.hid (HBa.out.trans (hb2.mono hz1)); have hz2 := HBb.out.size; have hz2' := hb2.size; clear d0 d1 d2 d3 d4 d5 q0 q1 q2 q3 q4 q5 e0 e1 e2 e3 e4 e5 f0 f1 f2 f3 f4 f5; obtain ⟨d0, d1, d2, d3, d4, d5⟩ := facts6 HYb.out; obtain ⟨q0, q1, q2, q3, q4, q5⟩ := free6 HYb.out; obtain ⟨e0, e1, e2, e3, e4, e5⟩ := facts6 HZb.out; obtain ⟨f0, f1, f2, f3, f4, f5⟩ := free6 HZb.out)
      | (go_at_call 61; refine Calls.mono (signed_is s 5 _ HS.out (by omega)) ?_; rintro e3 w3 ⟨rfl, hb3'⟩; rw [← HYY.out]; have HYc := Lib.hid (keep_block hb3' HYb.out); have HZc := Lib.hid (keep_block hb3' HZb.out); have HBc := Lib.hid (HBb.out.trans (hb3'.mono hz2)); have hz3 := HBc.out.size; clear d0 d1 d2 d3 d4 d5 q0 q1 q2 q3 q4 q5 e0 e1 e2 e3 e4 e5 f0 f1 f2 f3 f4 f5; obtain ⟨d0, d1, d2, d3, d4, d5⟩ := facts6 HYc.out; obtain ⟨q0, q1, q2, q3, q4, q5⟩ := free6 HYc.out; obtain ⟨e0, e1, e2, e3, e4, e5⟩ := facts6 HZc.out; obtain ⟨f0, f1, f2, f3, f4, f5⟩ := free6 HZc.out))
    have HZs := Lib.hid (blk_other (i := 5) (v := .int .i64 y) (show w.heap.size ≠ b3 by omega) (blk_other (i := 4) (v := .int .i64 x) (show w.heap.size ≠ b3 by omega) HZc.out))
    have HBs := Lib.hid (show Below w.heap.size w ((w3.setCell ⟨b3, 4, none⟩ (.int .i64 x)).setCell ⟨b3, 5, none⟩ (.int .i64 y)) from (HBc.out.setCell (by first | omega | (dsimp only; omega)) _).setCell (by first | omega | (dsimp only; omega)) _)
    refine end61 Tryd.results34 ?_ (set6 _ _ _ _ _ _ HZs.out) ?_
    · rfl
    · exact read_out (a := ⟨5, ⟨#[]⟩, [], [], x, y⟩) (PA := none) (pc := 0) (IA := none) (ic := 0) (HV.out) (HBs.out) (.inl rfl) (.inl rfl) (fun _ _ h => by cases h) (fun _ _ h => by cases h) (Nat.zero_le _) (Nat.zero_le _) (Nat.zero_le _) (fun _ h => by cases h) (fun _ h => by cases h)
theorem txL_len (s : ByteArray) (i m : Nat) : (txL (txF s i m)).length ≤ m := by
  cases h : txF s i m with
  | none => simp [txL]
  | some p => have := (txF_len h).1; simp [txL]; omega
theorem txL_size (s : ByteArray) (i m : Nat) : ∀ x ∈ txL (txF s i m), x.size ≤ s.size := by
  cases h : txF s i m with
  | none => simp [txL]
  | some p => exact txF_size h
theorem texts_any {s : ByteArray} {i m : Nat} {w : World} {L : List ByteArray} (hs : s.size ≤ maxLen) (hi : i ≤ 3) (hm : m ≤ 512) (h : txL (txF s i m) = L) : Calls Tryd.prog 60 #[.string s, .int .i64 (i : Int), .int .i64 (m : Int)] w fun en w' => ∃ (A : Option Addr) (c : Nat) (z : Int), en = .returned (.tuple #[.slice A L.length c, .int .i64 z]) ∧ RowKit.Hid (Rd w' A L) ∧ RowKit.Hid (∀ b off, A = some ⟨b, off, none⟩ → w.heap.size ≤ b) ∧ Below w.heap.size w w' := by
  subst h
  exact (texts_is s i m w hs hi hm).mono fun en w' ⟨A, c, h1, h2, h3, h4⟩ => ⟨A, c, _, h1, h2, h3, h4⟩
theorem cell_only {w w' : World} {g : Nat} {a : Addr} {v : Value} (h : w.grownBy w' (some g)) (hc : w.cell? a = some v) (hne : a.block ≠ g) : w'.cell? a = some v := by
  have hb := h.block a.block (lt_of_cell hc) (fun e => hne (by injection e))
  unfold World.cell? at hc ⊢
  rw [hb]; exact hc
theorem rread_2ps (s : ByteArray) (k : Int) (w : World) (hs : s.size ≤ maxLen) (h0 : 1 ≤ s.size) (hk : (byteAt s 0 : Int) = k) (hkk : k = 2) (hsm : ¬ 256 < atF s 1) (L : List ByteArray) (hL : txL (txF s 3 (2 * (atF s 1).toNat)) = L) (hn : ¬ atF s 1 < 0) : Calls Tryd.prog 34 #[.string s] w (ReadOut (readB k s) w) := by
  have HK := Lib.hid (show ((s[0]'(by omega)).toNat : Int) = k by rw [← hk, byteAt_eq (by omega)])
  have HS := Lib.hid hs
  have HWK := Lib.hid (show wrap64 k = k by have := byteAt_lt s 0; unfold wrap64; omega)
  have hs' := hs
  unfold maxLen at hs'
  subst hkk
  clear hk hs
  have hu := Tryd.underlying25
  obtain ⟨z, hz⟩ : ∃ z, z = atF s 1 := ⟨_, rfl⟩
  have HZ1 := Lib.hid hz
  have hzn : ¬ z < 0 := by rw [hz]; exact hn
  obtain ⟨n, rfl⟩ : ∃ n : Nat, z = n := ⟨z.toNat, by omega⟩
  clear hzn
  have hnn : (atF s 1).toNat = n := by rw [← hz]; rfl
  have hn256 : n ≤ 256 := by have := hsm; rw [← hz] at this; omega
  have hn256' : ¬ (256 < n) := by omega
  have HV := Lib.hid (show readB 2 s = ⟨2, ⟨#[]⟩, pairUp L, [], 0, 0⟩ by unfold readB; rw [if_neg hn, if_neg (by decide), if_pos rfl, if_neg hsm, hL])
  have hLs := txL_size s 3 (2 * (atF s 1).toNat)
  have hLn := txL_len s 3 (2 * (atF s 1).toNat)
  rw [hL] at hLs hLn
  rw [hnn] at hLn hL
  have hLm : L.length ≤ 512 := by omega
  have HLS := Lib.hid hLs
  have HLL := Lib.hid hL
  have HC2 := Lib.hid (show (2 : Int) * (n : Int) = ((2 * n : Nat) : Int) by omega)
  clear hz hn hsm hnn hL hLs hLn
  obtain ⟨i0, hi, iz0, iz1, iz2⟩ := info_parts info44
  go_enter Tryd.func34, Tryd.ntmps34
  go_upto_region 1 with fail
  go_cut [3] (fun s3 wx => ∃ b3 : Nat, s3 = .pointer (some ⟨b3, 0, none⟩) ∧ w.heap.size < b3 ∧ RowKit.Hid (wx.heap[w.heap.size]? = some (.cells #[.int .i64 0, .string ⟨#[]⟩, .slice none 0 0, .slice none 0 0, .int .i64 0, .int .i64 0] 27 (0, 0))) ∧ RowKit.Hid (wx.heap[b3]? = some (.cells #[.int .i64 2, .string ⟨#[]⟩, .slice none 0 0, .slice none 0 0, .int .i64 0, .int .i64 0] 27 (0, 0))) ∧ RowKit.Hid (Below w.heap.size w wx))
  case first =>
    go_wp2
    go_meet
    simp only [HK.out, HWK.out]
    exact read_first w _
  case rest =>
    obtain ⟨b3, rfl, hb3, HZ, HY, HB⟩ := hcut
    have hzc := HB.out.size
    have hb3c := lt_of_block HY.out
    obtain ⟨d0, d1, d2, d3, d4, d5⟩ := facts6 HY.out
    obtain ⟨e0, e1, e2, e3, e4, e5⟩ := facts6 HZ.out
    obtain ⟨f0, f1, f2, f3, f4, f5⟩ := free6 HZ.out
    go_upto_region 14 with (first
      | (go_at_call 59; refine Calls.mono (at_is s 1 _ HS.out (by omega)) ?_; rintro e w1 ⟨rfl, hb1⟩; rw [← HZ1.out]; have HYa := Lib.hid (keep_block hb1 HY.out); have HZa := Lib.hid (keep_block hb1 HZ.out); have HBa := Lib.hid (HB.out.trans (hb1.mono hzc)); have hz1 := HBa.out.size; have hz1' := hb1.size; clear hb1 d0 d1 d2 d3 d4 d5 e0 e1 e2 e3 e4 e5 f0 f1 f2 f3 f4 f5; obtain ⟨d0, d1, d2, d3, d4, d5⟩ := facts6 HYa.out; obtain ⟨q0, q1, q2, q3, q4, q5⟩ := free6 HYa.out; obtain ⟨e0, e1, e2, e3, e4, e5⟩ := facts6 HZa.out; obtain ⟨f0, f1, f2, f3, f4, f5⟩ := free6 HZa.out)
      | (go_at_call 60; rw [HC2.out]; refine Calls.mono (texts_any (i := 3) (m := 2 * n) HS.out (by omega) (by omega) HLL.out) ?_; rintro e2 w2 ⟨A, c, z2, rfl, HR, HA, hb2⟩; have HYb := Lib.hid (keep_block hb2 HYa.out); have HZb := Lib.hid (keep_block hb2 HZa.out); have HBb := Lib.hid (HBa.out.trans (hb2.mono hz1)); have hz2 := HBb.out.size; have hz2' := hb2.size; clear d0 d1 d2 d3 d4 d5 q0 q1 q2 q3 q4 q5 e0 e1 e2 e3 e4 e5 f0 f1 f2 f3 f4 f5; obtain ⟨d0, d1, d2, d3, d4, d5⟩ := facts6 HYb.out; obtain ⟨q0, q1, q2, q3, q4, q5⟩ := free6 HYb.out; obtain ⟨e0, e1, e2, e3, e4, e5⟩ := facts6 HZb.out; obtain ⟨f0, f1, f2, f3, f4, f5⟩ := free6 HZb.out))
    have hb31 := lt_of_block HYa.out
    have hb32 := lt_of_block HYb.out
    go_wp2_with fail
    go_loopw [9] (fun x9 wr => ∃ (i j : Nat) (v0 : Value) (l : List (ByteArray × ByteArray)), x9 = .int .i64 i ∧ i ≤ L.length + 1 ∧ j ≤ 600 ∧ RowKit.Hid (i = 2 * j) ∧ RowKit.Hid (pairUp L = l ++ pairUp (L.drop i)) ∧ RowKit.Hid (∀ y ∈ l, y.1.size ≤ maxLen ∧ y.2.size ≤ maxLen) ∧ RowKit.Hid (wr.ownsRow w2.heap.size 44 2 v0 j (psv l)) ∧ RowKit.Hid (wr.heap[b3]? = some (.cells #[.int .i64 2, .string ⟨#[]⟩, v0, .slice none 0 0, .int .i64 0, .int .i64 0] 27 (0, 0))) ∧ RowKit.Hid (w2.grownBy wr (some b3)) ∧ w2.heap.size ≤ wr.heap.size) (fun x9 _ => L.length + 1 - (intOf x9).toNat)
    case atStart => exact ⟨0, 0, .slice none 0 0, [], rfl, Nat.zero_le _, Nat.zero_le _, Lib.hid rfl, Lib.hid (by simp), Lib.hid (fun _ h => by cases h), Lib.hid (World.ownsRow_nil _ _ _ _), HYb, Lib.hid (only_below (Below.refl _ _)), Nat.le_refl _⟩
    case round =>
      obtain ⟨i, j, v0, l, rfl, hiL, hj600, HIJ, HL, HSz, HOr, HYr, HGr, hzr⟩ := hrel
      clear d0 d1 d2 d3 d4 d5 q0 q1 q2 q3 q4 q5 e0 e1 e2 e3 e4 e5 f0 f1 f2 f3 f4 f5
      obtain ⟨d0, d1, d2, d3, d4, d5⟩ := facts6 HYr.out
      obtain ⟨q0, q1, q2, q3, q4, q5⟩ := free6 HYr.out
      by_cases hlt : i + 1 < L.length
      · obtain ⟨ab, ao, rfl⟩ := HR.out.addr (by omega)
        have hab := HA.out ab ao rfl
        have g1 := cell_only HGr.out (HR.out.cell (show i < L.length by omega)) (by dsimp only; omega)
        have g2 := cell_only HGr.out (HR.out.cell hlt) (by dsimp only; omega)
        have HST := Lib.hid (pairUp_step hlt)
        have hxs := HLS.out L[i] (List.getElem_mem _)
        have hys := HLS.out L[i + 1] (List.getElem_mem _)
        have hj6 : j < 600 := by have := HIJ.out; omega
        obtain ⟨x, hx⟩ : ∃ x, x = L[i] := ⟨_, rfl⟩
        obtain ⟨y, hy⟩ : ∃ y, y = L[i + 1] := ⟨_, rfl⟩
        rw [← hx] at g1 hxs
        rw [← hy] at g2 hys
        rw [← hx, ← hy] at HST
        have HXS := Lib.hid hxs; have HYS := Lib.hid hys
        clear hx hy hxs hys
        have hbr := lt_of_block HYr.out
        have hi1 : i < L.length := by omega
        have hc1 : 0 ≤ (i : Int) + 1 ∧ (i : Int) + 1 < (L.length : Int) := by omega
        have ht1 : ((i : Int) + 1).toNat = i + 1 := by omega
        have hwr : IntKind.i64.wrap ((i : Int) + 1) = (i : Int) + 1 := by rw [IntKind.wrap_i64]; omega
        go_wp2_with fail
        go_region_law
          (first
            | (refine step_append_lies _ (by rfl) _ _ _ (by rfl) w2.heap.size 44 i0 _ 2 32 Tryd.underlying22 hi iz0 iz1 iz2 rfl (by omega) v0 j (psv l) (by rfl) (by exact (HOr.out.drew.alloc _)) ⟨wr.heap.size, 0, none⟩ 1 1 [.string x, .string y] (by rfl) (by rfl) (World.news_of_block (cs := #[.string x, .string y]) (t := 44) (fr := (0, 0)) (heap_alloc_new wr.drew _)) (by simp [Value.oneCell']) (by omega) (by unfold maxLen; omega) (by omega) (by simp; omega) (wr.heap.size + 1) (by simp) ?_; intro gg cap w5 hown1 hgrow hat hlt'; have HY5 := Lib.hid (grownP_blk HOr.out hgrow (by exact (keep_block (w := wr.drew) ((Below.refl _ _).alloc (Nat.le_refl _) _) HYr.out)) hb32); obtain ⟨d0, d1, d2, d3, d4, d5⟩ := facts6 HY5.out; obtain ⟨q0, q1, q2, q3, q4, q5⟩ := free6 HY5.out; have HGW := Lib.hid hgrow; have HO5 := Lib.hid hown1; clear hgrow hown1 hat))
        all_goals
          go_wp2_with fail
          have hz5 : (wr.alloc (.cells #[.string x, .string y] 44)).heap.size ≤ w5.heap.size := HGW.out.size
          rw [alloc_size] at hz5
          have hGe : w2.grownBy (w5.setCell ⟨b3, 2, none⟩ (.slice (some ⟨gg, 0, none⟩) (j + 1) cap)) (some b3) := only_trans (grownP_only HOr.out HGW.out (only_drew (only_alloc HGr.out _)) (Nat.le_refl _)) (only_set _ _ _ _)
          have hOe := ownP_push (i := 2) HO5.out hb32 (.slice (some ⟨gg, 0, none⟩) (j + 1) cap)
          have hYe : (w5.setCell ⟨b3, 2, none⟩ (.slice (some ⟨gg, 0, none⟩) (j + 1) cap)).heap[b3]? = some (.cells #[.int .i64 2, .string ⟨#[]⟩, .slice (some ⟨gg, 0, none⟩) (j + 1) cap, .slice none 0 0, .int .i64 0, .int .i64 0] 27 (0, 0)) := by
            have := heap_set (i := 2) HY5.out (.slice (some ⟨gg, 0, none⟩) (j + 1) cap); simpa using this
          exact ⟨⟨i + 2, j + 1, _, l ++ [(x, y)], by go_num, by omega, by omega, Lib.hid (by have := HIJ.out; omega), Lib.hid (by rw [HL.out, HST.out]; simp), Lib.hid (fun p hp => (List.mem_append.1 hp).elim (HSz.out p) (fun h => by rw [List.mem_singleton.1 h]; exact ⟨by dsimp only; have := HXS.out; have := HS.out; omega, by dsimp only; have := HYS.out; have := HS.out; omega⟩)), Lib.hid (by simpa [psv] using hOe), Lib.hid hYe, Lib.hid hGe, by rw [set_size]; omega⟩, by simp [intOf]; omega⟩
      · have HPE := Lib.hid (show pairUp L = l by rw [HL.out, pairUp_stop (by omega)]; simp)
        have HZr := Lib.hid (only_block HGr.out HZb.out (by omega))
        have HBr := Lib.hid (only_to_below HBb.out HGr.out (by omega) (by omega))
        obtain ⟨A', cp, rfl⟩ := ownP_slice HOr.out
        have hln := Lib.hid (ownP_rd HOr.out).2
        obtain ⟨e0, e1, e2, e3, e4, e5⟩ := facts6 HZr.out
        obtain ⟨f0, f1, f2, f3, f4, f5⟩ := free6 HZr.out
        go_wp2
        refine end61 Tryd.results34 ?_ (set6 _ _ _ _ _ _ HZr.out) ?_
        · rfl
        · have hor := HOr.out
          have hln' := hln.out
          subst hln'
          have hv := HV.out
          rw [HPE.out] at hv
          exact read_out (a := ⟨2, ⟨#[]⟩, l, [], 0, 0⟩) (PA := A') (pc := cp) (IA := none) (ic := 0) hv HBr.out (ownP_rd hor).1 (.inl rfl) (fun b' off h => by have := (hor.lt b' (by rw [h]; rfl)).1; omega) (fun _ _ h => by cases h) (by show l.length ≤ maxLen; unfold maxLen; omega) (Nat.zero_le _) (Nat.zero_le _) HSz.out (fun _ h => by cases h)
end Go.Proofs.YtdpgkihecpjijaaDoor.T
