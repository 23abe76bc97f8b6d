import Derived.Deep.DeepCutAuto
import Derived.Laws.OwnMore
import Derived.OwnWalk
import Derived.Lib.AppendStr
import Derived.Lib.SliceRun
import Derived.Lib.SmallJoins
import Derived.IntWalk
import Derived.Lib.ItoaLen
import Derived.WalkMore
import Derived.Lib.AtoiAllCases
import Derived.Lib.OthersKept
import Derived.Laws.Runes
import Derived.Deep.LoopGhost
import Derived.Deep.RegionLaw
import Derived.Deep.AppendLies
import Derived.Test.YteghfinngilfgaaDoorProg
import Derived.Test.YteghfinngilfgaaDoorMem
import Derived.Test.YteghfinngilfgaaDoorZn
import Derived.WalkKit
import Derived.Outline
import Derived.WalkLawsBesides
import Derived.Deep.QuietTactic
import Derived.BigQuiet
import Derived.Lib.Hide
import Derived.Handy
import Derived.Deep.RegionHeld3
import Derived.Deep.DrawnRows
import Derived.KernelRfl
import Derived.Great.Walk
import Derived.Test.YteghfinngilfgaaDoorOwn
namespace Go.Proofs.YteghfinngilfgaaDoor.T
open Go Go.RowKit Go.Sort Mem Own
set_option maxRecDepth 100000
set_option maxHeartbeats 1000000
set_option linter.unusedVariables false
set_option linter.unusedSimpArgs false

theorem cut_line (line tail p q : List UInt8) (h : line ++ (13 :: 10 :: tail) = p ++ q) (hl : ∀ b ∈ line, ¬ b = 10) : (p.length ≤ line.length + 1 ∧ ∀ b ∈ p, ¬ b = 10) ∨ (∃ p2, p = line ++ (13 :: 10 :: p2) ∧ p2 ++ q = tail) := by
  have h' : (line ++ [13] ++ [10]) ++ tail = p ++ q := by rw [← h]; simp
  rcases List.append_eq_append_iff.1 h' with ⟨a', h1, h2⟩ | ⟨c', h1, h2⟩
  · exact .inr ⟨a', by rw [h1]; simp, h2.symm⟩
  · rcases List.eq_nil_or_concat c' with rfl | ⟨c'', x, rfl⟩
    · exact .inr ⟨[], by rw [List.append_nil] at h1; rw [← h1]; simp, by simpa using h2⟩
    · left
      have h1' : (line ++ [13]) ++ [10] = (p ++ c'') ++ [x] := h1.trans (by simp)
      obtain ⟨h3, -⟩ := List.append_inj' h1' rfl
      refine ⟨?_, fun b hb => ?_⟩
      · have := congrArg List.length h3; simp at this; omega
      · have hb2 : b ∈ line ++ [13] := by rw [h3]; exact List.mem_append_left _ hb
        rcases List.mem_append.1 hb2 with h | h
        · exact hl b h
        · rw [List.mem_singleton.1 h]; decide
theorem encs_cut {d : Nat} : ∀ {l : List T} {r p q : List UInt8}, encs d l = some r → r = p ++ q → q ≠ [] → ∃ (j : Nat) (hj : j < l.length) (a b p2 q2 : List UInt8), encs d (l.take j) = some a ∧ enc d l[j] = some b ∧ p = a ++ p2 ∧ b = p2 ++ q2 ∧ q2 ≠ []
  | [], r, p, q, h, hr, hq => by
    simp [encs] at h; subst h
    have := congrArg List.length hr
    simp at this
    exact absurd (List.eq_nil_of_length_eq_zero (by omega)) hq
  | x :: l, r, p, q, h, hr, hq => by
    simp only [encs] at h
    obtain ⟨a0, h2, h3⟩ := Option.bind_eq_some_iff.1 h
    obtain ⟨b0, h4, rfl⟩ := Option.map_eq_some_iff.1 h3
    have next : ∀ p' q', b0 = p' ++ q' → q' ≠ [] → p = a0 ++ p' → ∃ (j : Nat) (hj : j < (x :: l).length) (a b p2 q2 : List UInt8), encs d ((x :: l).take j) = some a ∧ enc d (x :: l)[j] = some b ∧ p = a ++ p2 ∧ b = p2 ++ q2 ∧ q2 ≠ [] := by
      intro p' q' e1 e2 e3
      obtain ⟨j, hj, a, b, p2, q2, k1, k2, k3, k4, k5⟩ := encs_cut h4 e1 e2
      exact ⟨j + 1, by simpa using hj, a0 ++ a, b, p2, q2, by simp [encs, h2, k1], by simpa using k2, by rw [e3, k3]; simp, k4, k5⟩
    rcases List.append_eq_append_iff.1 hr with ⟨a', h5, h6⟩ | ⟨c', h5, h6⟩
    · exact next a' q h6 hq h5
    · by_cases hc : c' = []
      · subst hc
        exact next [] q (by simpa using h6.symm) hq (by simpa using h5.symm)
      · exact ⟨0, by simp, [], a0, p, c', by simp [encs], by simpa using h2, rfl, h5, hc⟩
/-- reply.read of a beginning of a bulk text. -/
theorem read_4_cut (t s : ByteArray) (d : Int) (p2 q2 : List UInt8) (w : World) (hz : t.size ≤ 65536) (hs : s.toList = 36 :: (Lib.itoa (t.size : Int) ++ (crlf ++ p2))) (hpq : p2 ++ q2 = t.toList ++ crlf) (hq2 : q2 ≠ []) (hsz : s.size ≤ 9223372036854775807) (hT : Tab w) :
    Calls Tryd.prog 25 #[.string s, .int .i64 d] w (RShort w) := by
  have h0 : (-9223372036854775808 : Int) ≤ (t.size : Int) := by omega
  have h1 : (t.size : Int) ≤ 9223372036854775807 := by omega
  have hqs := dec_size (t.size : Int) h0 h1
  have hdt : (dec (t.size : Int)).toList = Lib.itoa (t.size : Int) := by rw [ByteArray.toList_eq]; rfl
  have hlt : (Lib.itoa (t.size : Int)).length = (dec (t.size : Int)).size := by rw [← hdt, toList_len]
  obtain ⟨q, hq⟩ : ∃ q, q = dec (t.size : Int) := ⟨_, rfl⟩
  obtain ⟨L, hL⟩ : ∃ L : List UInt8, L = 36 :: q.toList := ⟨_, rfl⟩
  have hql : q.toList = Lib.itoa (t.size : Int) := by rw [hq, hdt]
  have hLl : L.length = q.size + 1 := by rw [hL]; simp [toList_len]
  have HL := Lib.hid (fun wx => line_ok L s p2 wx (by rw [hs, hL, hql]; simp [crlf]) (by intro b hb; rw [hL, hql] at hb; rcases List.mem_cons.1 hb with rfl | h; decide; exact itoa_plain _ b h) (by rw [hq] at hLl; omega) hsz)
  have hp0 : 0 < s.size := by rw [← toList_len, hs]; simp
  have hg : s[0]'hp0 = 36 := by
    have := ba_get hp0
    rw [hs] at this; simpa using this.symm
  have hx : (⟨L.toArray⟩ : ByteArray).extract 1 (q.size + 1) = q := by rw [hL]; exact tail_ext 36 q
  have hLs : (⟨L.toArray⟩ : ByteArray).size = q.size + 1 := by show L.toArray.size = _; simp [hLl]
  have HI := Lib.hid (fun (wx : World) => (Tryd.strings_IndexByte ⟨#[43, 45, 58, 36, 42]⟩ 36 wx).mono (R' := fun e w' => e = .returned (.int .i64 3) ∧ wx = w') (fun e w' h => ⟨h.1, h.2.symm⟩))
  have HN := Lib.hid (new1 w #[.int .i64 0, .int .i64 0, .string ⟨#[]⟩, .slice none 0 0] 24)
  have hne : s.toList.isEmpty = false := by rw [hs]; rfl
  obtain ⟨x0, x1, x2, x3⟩ := cells4 HN.out.1
  have HT := Lib.hid hT
  have HNO := Lib.hid (show ∀ wx, Tab wx → Calls Tryd.prog 35 #[.string q, .int .i64 (-1), .int .i64 65536] wx fun e w' => e = .returned (.tuple #[.int .i64 (t.size : Int), .int .i64 0]) ∧ Below wx.heap.size wx w' from fun wx hx => by rw [hq]; exact number_ok (t.size : Int) (-1) 65536 wx h0 h1 (by omega) (by omega) hx)
  have hln : ((Lib.itoa (t.size : Int)).length : Int) = (q.size : Int) := by rw [← hql, toList_len]
  have hq21 : q.size ≤ 21 := by rw [hq]; exact hqs
  have hu : (s.extract (q.size + 1 + 2) s.size).toList = p2 := by
    rw [ext_from, hs]
    have e1 : 36 :: (Lib.itoa (t.size : Int) ++ (crlf ++ p2)) = (36 :: (q.toList ++ [13, 10])) ++ p2 := by rw [hql]; simp [crlf]
    rw [e1]
    exact List.drop_left' (by simp [toList_len])
  have hssz : q.size + 1 + 2 ≤ s.size := by
    have := congrArg List.length hs
    rw [toList_len] at this
    simp [crlf] at this
    have hq2 : (Lib.itoa (t.size : Int)).length = q.size := by omega
    omega
  obtain ⟨u, hU⟩ : ∃ u, u = s.extract (q.size + 1 + 2) s.size := ⟨_, rfl⟩
  rw [← hU] at hu
  have huz : u.size < t.size + 2 := by
    have e1 := congrArg List.length hpq
    have e2 : 0 < q2.length := List.length_pos_iff.2 hq2
    simp [crlf, toList_len] at e1
    rw [← toList_len u, hu]; omega
  have hat : ∀ n : Nat, n < u.size → u.toList[n]? = (t.toList ++ crlf)[n]? := fun n hn => by
    rw [hu, ← hpq, List.getElem?_append_left (by rw [← hu, toList_len]; exact hn)]
  have HBK := Lib.hid (show ∀ wx, Calls Tryd.prog 36 #[.string u, .int .i64 (t.size : Int)] wx fun e w' => e = .returned (.tuple #[.string ⟨#[]⟩, .int .i64 40]) ∧ Below wx.heap.size wx w' from fun wx => (bulk_gen t.size u wx (fun h => by rw [hat _ h, List.getElem?_append_right (by rw [toList_len]; omega), toList_len]; simp [crlf]) (fun h => by rw [hat _ h, List.getElem?_append_right (by rw [toList_len]; omega), toList_len]; simp [crlf]) (by omega) (by rw [hU]; simp; omega)).mono (fun e w' h => by rw [if_neg (by omega)] at h; exact h))
  have hU' := hU.symm
  have h3s : q.size + 1 + 2 ≤ s.size := by omega
  clear hs hL hql hq hT hdt hlt hqs hln hu huz hat hpq hq2 hU
  go_enter Tryd.func25, Tryd.ntmps25
  go_wp2_with (first
    | (go_at_call 33; refine Calls.mono (HI.out _) ?_; rintro e w1 ⟨rfl, rfl⟩)
    | (go_at_call 35; refine Calls.mono (HNO.out _ (HT.out.keep HB2.out)) ?_; (rintro e w3 ⟨rfl, hb3⟩; have HB3 := Lib.hid (HB2.out.trans (hb3.mono HB2.out.size)); have HX3 := Lib.hid (keep_blk hb3 HX2.out); clear hb3 x0 x1 x2 x3 f0 f1 f2 f3; obtain ⟨x0, x1, x2, x3⟩ := cells4 HX3.out; obtain ⟨f0, f1, f2, f3⟩ := frees4 HX3.out))
    | (go_at_call 34; refine Calls.mono (HL.out _) ?_; (rintro e w2 ⟨rfl, hb2⟩; have HB2 := Lib.hid (HN.out.2.trans (hb2.mono HN.out.2.size)); have HX2 := Lib.hid (keep_blk hb2 HN.out.1); clear hb2 x0 x1 x2 x3; obtain ⟨x0, x1, x2, x3⟩ := cells4 HX2.out; obtain ⟨f0, f1, f2, f3⟩ := frees4 HX2.out))
    | (go_at_call 36; (try rw [hU']); refine Calls.mono (HBK.out _) ?_; (rintro e w6 ⟨rfl, hb6⟩; have HS6 := Lib.hid (show Below w.heap.size w (World.setCell _ ⟨w.heap.size, 0, none⟩ (.int .i64 4)) from Below.setCell (below_sets4 HB3.out (Nat.le_refl _) (u0 := .int .i64 5) (u1 := .int .i64 0) (u2 := .string ⟨#[]⟩) (u3 := .slice none 0 0)) (Nat.le_refl _) _); have HX6 := Lib.hid (keep_blk hb6 (set_0 (.int .i64 4) (sets4 (.int .i64 5) (.int .i64 0) (.string ⟨#[]⟩) (.slice none 0 0) HX3.out))); have HB6 := Lib.hid (HS6.out.trans (hb6.mono HS6.out.size)); clear hb6 x0 x1 x2 x3 f0 f1 f2 f3; obtain ⟨x0, x1, x2, x3⟩ := cells4 HX6.out; obtain ⟨f0, f1, f2, f3⟩ := frees4 HX6.out)))
  refine ret_reply rfl rfl rfl rfl (sets4 _ _ _ _ (set_2 _ HX6.out)) ?_
  exact ⟨rfl, below_sets4 (HB6.out.setCell (Nat.le_refl _) _) (Nat.le_refl _)⟩
/-- reply.read of a beginning of a list. -/
theorem read_6_cut (l : List T) (s : ByteArray) (d : Nat) (more : List UInt8) (w : World) (hd : d < 4) (hz : l.length ≤ 1024) (hs : s.toList = 42 :: (Lib.itoa (l.length : Int) ++ crlf) ++ more) (hsz : s.size ≤ 9223372036854775807) (hT : Tab w)
    (hls : ∀ (u : ByteArray) (wx : World), u.toList = more → u.size ≤ 9223372036854775807 → Below w.heap.size w wx → Calls Tryd.prog 37 #[.string u, .int .i64 (l.length : Int), .int .i64 (d : Int)] wx (fun e w' => e = .returned (.tuple #[.slice none 0 0, .int .i64 0, .int .i64 40]) ∧ Below wx.heap.size wx w')) :
    Calls Tryd.prog 25 #[.string s, .int .i64 (d : Int)] w (RShort w) := by
  have h0 : (-9223372036854775808 : Int) ≤ (l.length : Int) := by omega
  have h1 : (l.length : Int) ≤ 9223372036854775807 := by omega
  have hqs := dec_size (l.length : Int) h0 h1
  have hdt : (dec (l.length : Int)).toList = Lib.itoa (l.length : Int) := by rw [ByteArray.toList_eq]; rfl
  have hlt : (Lib.itoa (l.length : Int)).length = (dec (l.length : Int)).size := by rw [← hdt, toList_len]
  obtain ⟨q, hq⟩ : ∃ q, q = dec (l.length : Int) := ⟨_, rfl⟩
  obtain ⟨L, hL⟩ : ∃ L : List UInt8, L = 42 :: q.toList := ⟨_, rfl⟩
  have hql : q.toList = Lib.itoa (l.length : Int) := by rw [hq, hdt]
  have hLl : L.length = q.size + 1 := by rw [hL]; simp [toList_len]
  have HL := Lib.hid (fun wx => line_ok L s (more) wx (by rw [hs, hL, hql]; simp [crlf]) (by intro b hb; rw [hL, hql] at hb; rcases List.mem_cons.1 hb with rfl | h; decide; exact itoa_plain _ b h) (by rw [hq] at hLl; omega) hsz)
  have hp0 : 0 < s.size := by rw [← toList_len, hs]; simp
  have hg : s[0]'hp0 = 42 := by
    have := ba_get hp0
    rw [hs] at this; simpa using this.symm
  have hx : (⟨L.toArray⟩ : ByteArray).extract 1 (q.size + 1) = q := by rw [hL]; exact tail_ext 42 q
  have hLs : (⟨L.toArray⟩ : ByteArray).size = q.size + 1 := by show L.toArray.size = _; simp [hLl]
  have HI := Lib.hid (fun (wx : World) => (Tryd.strings_IndexByte ⟨#[43, 45, 58, 36, 42]⟩ 42 wx).mono (R' := fun e w' => e = .returned (.int .i64 4) ∧ wx = w') (fun e w' h => ⟨h.1, h.2.symm⟩))
  have HN := Lib.hid (new1 w #[.int .i64 0, .int .i64 0, .string ⟨#[]⟩, .slice none 0 0] 24)
  have hne : s.toList.isEmpty = false := by rw [hs]; rfl
  obtain ⟨x0, x1, x2, x3⟩ := cells4 HN.out.1
  have HT := Lib.hid hT
  have HNO := Lib.hid (show ∀ wx, Tab wx → Calls Tryd.prog 35 #[.string q, .int .i64 (0), .int .i64 1024] wx fun e w' => e = .returned (.tuple #[.int .i64 (l.length : Int), .int .i64 0]) ∧ Below wx.heap.size wx w' from fun wx hx => by rw [hq]; exact number_ok (l.length : Int) (0) 1024 wx h0 h1 (by omega) (by omega) hx)
  have hln : (Lib.itoa (l.length : Int)).length = q.size := by rw [← hql, toList_len]
  have hq21 : q.size ≤ 21 := by rw [hq]; exact hqs
  have hu : (s.extract (q.size + 1 + 2) s.size).toList = more := by
    rw [ext_from, hs]
    have e1 : 42 :: (Lib.itoa (l.length : Int) ++ crlf) ++ more = (42 :: (q.toList ++ [13, 10])) ++ more := by rw [hql]; simp [crlf]
    rw [e1]
    exact List.drop_left' (by simp [toList_len])
  have h3s : q.size + 1 + 2 ≤ s.size := by
    have := congrArg List.length hs
    rw [toList_len] at this
    simp [crlf] at this
    omega
  have huz : (s.extract (q.size + 1 + 2) s.size).size ≤ 9223372036854775807 := by simp; omega
  have HLS := Lib.hid (fun (wx : World) (hb : Below w.heap.size w wx) => hls (s.extract (q.size + 1 + 2) s.size) wx hu huz hb)
  obtain ⟨u, hU⟩ : ∃ u, u = s.extract (q.size + 1 + 2) s.size := ⟨_, rfl⟩
  have hU' := hU.symm
  rw [hU'] at HLS
  have h4 : decide ((d : Int) = 4) = false := by simp; omega
  clear hs hL hql hq hT hdt hlt hqs hln hu huz hU hls
  go_enter Tryd.func25, Tryd.ntmps25
  go_wp2_with (first
    | (go_at_call 33; refine Calls.mono (HI.out _) ?_; rintro e w1 ⟨rfl, rfl⟩)
    | (go_at_call 35; refine Calls.mono (HNO.out _ (HT.out.keep HB2.out)) ?_; (rintro e w3 ⟨rfl, hb3⟩; have HB3 := Lib.hid (HB2.out.trans (hb3.mono HB2.out.size)); have HX3 := Lib.hid (keep_blk hb3 HX2.out); clear hb3 x0 x1 x2 x3 f0 f1 f2 f3; obtain ⟨x0, x1, x2, x3⟩ := cells4 HX3.out; obtain ⟨f0, f1, f2, f3⟩ := frees4 HX3.out))
    | (go_at_call 34; refine Calls.mono (HL.out _) ?_; (rintro e w2 ⟨rfl, hb2⟩; have HB2 := Lib.hid (HN.out.2.trans (hb2.mono HN.out.2.size)); have HX2 := Lib.hid (keep_blk hb2 HN.out.1); clear hb2 x0 x1 x2 x3; obtain ⟨x0, x1, x2, x3⟩ := cells4 HX2.out; obtain ⟨f0, f1, f2, f3⟩ := frees4 HX2.out))
    | (go_at_call 37; (try rw [hU']); have HS6 := Lib.hid (show Below w.heap.size w (World.setCell _ ⟨w.heap.size, 0, none⟩ (.int .i64 6)) from Below.setCell HB3.out (Nat.le_refl _) _); refine Calls.mono (HLS.out _ HS6.out) ?_; (rintro e w6 ⟨rfl, hb6⟩; have HX6 := Lib.hid (keep_blk hb6 (set_0 (.int .i64 6) HX3.out)); have HB6 := Lib.hid (HS6.out.trans (hb6.mono HS6.out.size)); clear hb6 x0 x1 x2 x3 f0 f1 f2 f3; obtain ⟨x0, x1, x2, x3⟩ := cells4 HX6.out; obtain ⟨f0, f1, f2, f3⟩ := frees4 HX6.out)))
  refine ret_reply rfl rfl rfl rfl (sets4 _ _ _ _ (set_3 _ HX6.out)) ?_
  exact ⟨rfl, below_sets4 (HB6.out.setCell (Nat.le_refl _) _) (Nat.le_refl _)⟩
set_option maxHeartbeats 4000000 in
/-- reply.list of a beginning of the writings. -/
theorem list_cut (l : List T) (d : Nat) (r p q : List UInt8) (s : ByteArray) (w : World) (hd : d < 4) (hl : l.length ≤ 1024) (he : encs (d + 1) l = some r) (hr : r.length ≤ 100000000000000) (hpq : r = p ++ q) (hq : q ≠ []) (hs : s.toList = p) (hsz : s.size ≤ 9223372036854775807) (hT : Tab w)
    (ih : ∀ x ∈ l, ∀ (bs more' : List UInt8) (u : ByteArray) (wx : World), enc (d + 1) x = some bs → bs.length ≤ 100000000000000 → u.toList = bs ++ more' → u.size ≤ 9223372036854775807 → Tab wx → Calls Tryd.prog 25 #[.string u, .int .i64 ((d : Int) + 1)] wx (ROut x bs.length wx.heap.size wx))
    (ic : ∀ x ∈ l, ∀ (bs p' q' : List UInt8) (u : ByteArray) (wx : World), enc (d + 1) x = some bs → bs = p' ++ q' → q' ≠ [] → u.toList = p' → Tab wx → Calls Tryd.prog 25 #[.string u, .int .i64 ((d : Int) + 1)] wx (RShort wx)) :
    Calls Tryd.prog 37 #[.string s, .int .i64 (l.length : Int), .int .i64 (d : Int)] w (fun e w' => e = .returned (.tuple #[.slice none 0 0, .int .i64 0, .int .i64 40]) ∧ Below w.heap.size w w') := by
  obtain ⟨j, hj, aj, bj, p2, q2, j1, j2, j3, j4, j5⟩ := encs_cut he hpq hq
  have HT := Lib.hid hT
  have hsl : s.toList = aj ++ p2 := by rw [hs, j3]
  have HS := Lib.hid hsl
  have haz : aj.length ≤ 100000000000000 := by have := congrArg List.length hpq; rw [j3] at this; simp at this; omega
  have HIH := Lib.hid ih
  have HJ := Lib.hid j1
  have HJC := Lib.hid (fun (u : ByteArray) (wx : World) (hu : u.toList = p2) (hT : Tab wx) => ic l[j] (List.getElem_mem hj) bj p2 q2 u wx j2 j4 j5 hu hT)
  obtain ⟨N, hN⟩ : ∃ N, N = l.length := ⟨_, rfl⟩
  have HN := Lib.hid hN
  have hN1 : N ≤ 1024 := by omega
  have hjN : j < N := by omega
  have HHJ := Lib.hid hj
  rw [← hN]
  clear hT he hs ih ic hN hl hr hpq hq j1 j2 j3 j4 j5 hsl hj
  go_enter Tryd.func37, Tryd.ntmps37
  go_wp2_with fail
  go_loopw [9, 10, 15] (fun s9 s10 s15 wx => ∃ (v : Value) (i : Nat) (a : List UInt8), v = s9 ∧ i ≤ j ∧ s15 = .int .i64 i ∧ s10 = .int .i64 (a.length : Int) ∧ RowKit.Hid (encs (d + 1) (l.take i) = some a) ∧ RowKit.Hid (LSt w.heap.size l i v wx) ∧ RowKit.Hid (Below w.heap.size w wx)) (fun _ _ s15 _ => j - (intOf s15).toNat)
  case atStart => exact ⟨_, 0, [], rfl, Nat.zero_le _, rfl, rfl, Lib.hid (by simp [encs]), Lib.hid (LSt.nil _ _ _), Lib.hid (Below.refl _ _)⟩
  case round =>
    obtain ⟨v, i, a, rfl, hi, rfl, rfl, HA, HL, HB⟩ := hrel
    have hzr := HB.out.size
    have hiN : i < N := by omega
    by_cases hlt : i < j
    · have hlt3 := Lib.hid (show i < (l.take j).length by have := HHJ.out; simp; omega)
      have hlt2 := Lib.hid (show i < l.length by have := HHJ.out; omega)
      have HQ := Lib.hid (encs_at i hlt3.out HJ.out)
      obtain ⟨a', b, c, e1, e2, e3⟩ := HQ.out
      rw [List.take_take, Nat.min_eq_left (by omega)] at e1
      rw [List.getElem_take] at e2
      have ea : a' = a := by rw [HA.out] at e1; injection e1 with e1; exact e1.symm
      subst ea
      have HX := Lib.hid (List.getElem?_eq_getElem hlt2.out)
      have HM := Lib.hid (List.getElem_mem hlt2.out)
      have HA2 := Lib.hid (encs_take hlt2.out HA.out e2)
      generalize l[i]'hlt2.out = x at e2 HX HM HA2
      have hbl : b.length ≤ 100000000000000 := by have := haz; rw [e3] at this; simp at this; omega
      have hsl : s.size = a'.length + (b.length + (c ++ p2).length) := by rw [← toList_len, HS.out, e3]; simp; try omega
      have hu : (s.extract a'.length s.size).toList = b ++ (c ++ p2) := by
        rw [ext_from, HS.out, e3]; simp
      obtain ⟨u, hU⟩ : ∃ u, s.extract a'.length s.size = u := ⟨_, rfl⟩
      have hus : u.size ≤ 9223372036854775807 := by rw [← hU]; simp; omega
      rw [hU] at hu
      have HC := Lib.hid (fun (wx : World) (hT : Tab wx) => HIH.out x HM.out b (c ++ p2) u wx e2 hbl hu hus hT)
      have hle : a'.length ≤ s.size := by omega
      have h24 : a'.length + b.length ≤ 100000000000000 := by have := haz; rw [e3] at this; simp at this; omega
      clear HQ e1 e2 e3 hu hus hsl
      go_upto_region 5 with fail
      go_cut [11, 12, 13, 9, 10] (fun s11 s12 s13 s9 s10 wx => ∃ (g : Nat) (A : Option Addr) (cc : Nat) (w1 : World), s11 = .pointer (some ⟨g, 0, none⟩) ∧ s12 = .int .i64 (b.length : Int) ∧ s13 = .int .i64 0 ∧ v = s9 ∧ s10 = .int .i64 (a'.length : Int) ∧ RowKit.Hid (wx.heap[g]? = some (.cells #[.int .i64 x.k, .int .i64 x.z, .string x.t, .slice A x.l.length cc] 24 (0, 0))) ∧ RowKit.Hid (RdN wr.heap.size w1 A x) ∧ RowKit.Hid (Below wr.heap.size wr w1) ∧ RowKit.Hid (Below w1.heap.size w1 wx))
      case first =>
        go_wp2_with (go_at_call 25; (try rw [hU]); refine Calls.mono (HC.out _ (HT.out.keep HB.out)) ?_; rintro e w1 ⟨A, cc, rfl, hrd, hb1⟩)
        go_meet
        exact ⟨_, A, cc, w1, rfl, rfl, rfl, rfl, rfl, Lib.hid (heap_alloc_new w1 _), Lib.hid hrd, Lib.hid hb1, Lib.hid ((Below.refl _ _).alloc (Nat.le_refl _) _)⟩
      case rest =>
        obtain ⟨g, A, cc, w1, rfl, rfl, rfl, rfl, rfl, HG, HRD, HB1, HB2⟩ := hcut
        have hz1 := HB1.out.size
        have hz2 := HB2.out.size
        obtain ⟨x0, x1, x2, x3⟩ := cells4 HG.out
        have hln : l.length ≤ 1000000000000 := by rw [← HN.out]; omega
        go_wp2_with (at_builtin; refine Own.wpList_append_ex rfl (.tmp 30) (.tmp 32) 22 22 rfl v (.slice (some ⟨_, 0, none⟩) 1 1) rfl rfl _ (LSt.push HL.out HX.out hln hzr HRD.out HB1.out (HB2.out.alloc hz2 _) (heap_alloc_new _ _)) ?_; (rintro v2 w2 ⟨hl2, -, hg2, hv2⟩; have HL2 := Lib.hid hl2; have HB3 := Lib.hid (((HB.out.trans ((HB1.out.trans (HB2.out.mono hz1)).mono hzr)).alloc (by omega) _).grown hg2 (by rw [alloc_sz]; omega) hv2); clear hl2 hg2 hv2 x0 x1 x2 x3))
        exact ⟨⟨v2, i + 1, a' ++ b, rfl, by omega, by go_num, by simp, HA2, HL2, HB3⟩, by simp [intOf]; omega⟩
    · have hij : i = j := by omega
      subst hij
      have ha : a = aj := by have := HA.out; rw [HJ.out] at this; injection this with this; exact this.symm
      subst ha
      have hsl : s.size = a.length + p2.length := by rw [← toList_len, HS.out]; simp
      obtain ⟨u, hU⟩ : ∃ u, s.extract a.length s.size = u := ⟨_, rfl⟩
      have hu : u.toList = p2 := by rw [← hU, ext_from, HS.out]; simp
      have HC := Lib.hid (fun (wx : World) (hT : Tab wx) => HJC.out u wx hu hT)
      have hle : a.length ≤ s.size := by omega
      clear hu hsl
      go_wp2_with (go_at_call 25; (try rw [hU]); refine Calls.mono (HC.out _ (HT.out.keep HB.out)) ?_; (rintro e w1 ⟨rfl, hb1⟩; have HB1 := Lib.hid (HB.out.trans (hb1.mono hzr)); clear hb1))
      go_ret3
      exact ⟨rfl, HB1.out.alloc HB1.out.size _⟩
/-- The line that a writing begins with. -/
theorem enc_line {x : T} {d : Nat} {bs : List UInt8} (he : enc d x = some bs) (hwf : Wf x) : ∃ (c : UInt8) (j : Nat) (l tail : List UInt8), bs = (c :: l) ++ (13 :: 10 :: tail) ∧ Lib.indexByte [43, 45, 58, 36, 42] c = (j : Int) ∧ (∀ b ∈ c :: l, ¬ b = 10) ∧ (c :: l).length ≤ 510 ∧
    (tail = [] ∨ (x.k = 4 ∧ bareB x = true ∧ x.t.size ≤ 65536 ∧ c = 36 ∧ l = Lib.itoa x.t.size ∧ tail = x.t.toList ++ crlf) ∨ (x.k = 6 ∧ bareB x = true ∧ x.l.length ≤ 1024 ∧ d < 4 ∧ c = 42 ∧ l = Lib.itoa x.l.length ∧ encs (d + 1) x.l = some tail)) := by
  have plain : ∀ t : ByteArray, plainB t = true → (∀ b ∈ t.toList, ¬ b = 10) ∧ t.size ≤ 509 := by
    intro t hp
    unfold plainB at hp; simp at hp; exact ⟨fun b hb => (hp.1 b hb).2, hp.2⟩
  have num : ∀ (c : UInt8) (z : Int), ¬ c = 10 → (∀ b ∈ c :: Lib.itoa z, ¬ b = 10) := by
    intro c z hc b hb
    rcases List.mem_cons.1 hb with rfl | h
    · exact hc
    · exact (itoa_plain _ b h).2
  have nlen : ∀ (c : UInt8) (z : Int), -9223372036854775808 ≤ z → z ≤ 9223372036854775807 → (c :: Lib.itoa z).length ≤ 510 := by
    intro c z h0 h1
    have := Lib.itoa_length_le z h0 h1
    simp; omega
  cases hbr : bareB x with
  | false => rw [enc_bare hbr] at he; cases he
  | true =>
    by_cases k1 : x.k = 1
    · rw [enc_1 hbr k1] at he
      split at he
      · rename_i hp
        cases he
        obtain ⟨h1, h2⟩ := plain _ hp
        exact ⟨43, 0, x.t.toList, [], by simp [crlf], by decide +kernel, fun b hb => by rcases List.mem_cons.1 hb with rfl | h; decide; exact h1 b h, by simp [toList_len]; omega, .inl rfl⟩
      · cases he
    by_cases k2 : x.k = 2
    · rw [enc_2 hbr k2] at he
      split at he
      · rename_i hp
        cases he
        obtain ⟨h1, h2⟩ := plain _ hp
        exact ⟨45, 1, x.t.toList, [], by simp [crlf], by decide +kernel, fun b hb => by rcases List.mem_cons.1 hb with rfl | h; decide; exact h1 b h, by simp [toList_len]; omega, .inl rfl⟩
      · cases he
    by_cases k3 : x.k = 3
    · rw [enc_3 hbr k3] at he
      cases he
      exact ⟨58, 2, Lib.itoa x.z, [], by simp [crlf], by decide +kernel, num _ _ (by decide), nlen _ _ hwf.z.1 hwf.z.2, .inl rfl⟩
    by_cases k4 : x.k = 4
    · rw [enc_4 hbr k4] at he
      split at he
      · rename_i hp
        cases he
        exact ⟨36, 3, Lib.itoa x.t.size, x.t.toList ++ crlf, by simp [crlf], by decide +kernel, num _ _ (by decide), nlen _ _ (by omega) (by omega), .inr (.inl ⟨k4, rfl, hp, rfl, rfl, rfl⟩)⟩
      · cases he
    by_cases k5 : x.k = 5
    · rw [enc_5 hbr k5] at he
      cases he
      exact ⟨36, 3, [45, 49], [], by simp, by decide +kernel, by decide, by decide, .inl rfl⟩
    by_cases k6 : x.k = 6
    · rw [enc_6 hbr k6] at he
      split at he
      · rename_i hp
        obtain ⟨r, hr, rfl⟩ := Option.map_eq_some_iff.1 he
        exact ⟨42, 4, Lib.itoa x.l.length, r, by simp [crlf], by decide +kernel, num _ _ (by decide), nlen _ _ (by omega) (by omega), .inr (.inr ⟨k6, rfl, hp.1, hp.2, rfl, rfl, hr⟩)⟩
      · cases he
    · rw [enc_no k1 k2 k3 k4 k5 k6] at he
      cases he
/-- reply.read of any proper beginning of a writing. -/
theorem read_cut : ∀ (N : Nat) (x : T) (d : Nat) (bs p q : List UInt8) (s : ByteArray) (w : World), x.sz ≤ N → enc d x = some bs → Wf x → wt d x ≤ 100000000000000 → bs = p ++ q → q ≠ [] → s.toList = p → Tab w →
    Calls Tryd.prog 25 #[.string s, .int .i64 (d : Int)] w (RShort w) := by
  intro N
  induction N with
  | zero => intro x _ _ _ _ _ _ h; have := sz_pos x; omega
  | succ N ih =>
    intro x d bs p q s w hs he hwf hm hpq hq hst hT
    have hbl := Nat.le_trans (enc_wt hwf he) hm
    have hsz : s.size ≤ 9223372036854775807 := by
      have := congrArg List.length hpq
      rw [← toList_len, hst]
      simp at this; omega
    obtain ⟨c, j, l, tail, hb, hc, hl, hln, hk⟩ := enc_line he hwf
    cases hp0 : p with
    | nil =>
      have : s = ⟨#[]⟩ := ba_list (by rw [hst, hp0]; decide +kernel)
      rw [this]
      exact read_none _ _
    | cons c0 p0 =>
      rcases cut_line (c :: l) tail p q (by rw [← hb, hpq]) hl with ⟨h1, h2⟩ | ⟨p2, h1, h2⟩
      · have hc0 : c0 = c := by
          have e := hb.symm.trans hpq
          rw [hp0] at e
          simp at e
          exact e.1.symm
        exact read_line_cut c j s d p0 w (by rw [hst, hp0, hc0]) hc (by rw [hst]; exact h2) (by rw [← toList_len, hst]; omega)
      · rcases hk with rfl | ⟨k4, hbr, ht, rfl, rfl, rfl⟩ | ⟨k6, hbr, hlz, hd, rfl, rfl, hr⟩
        · exact absurd (List.append_eq_nil_iff.1 h2).2 hq
        · exact read_4_cut x.t s d p2 q w ht (by rw [hst, h1]; simp [crlf]) h2 hq hsz hT
        · have hwx : wt d x = 64 + x.t.size + wts (d + 1) x.l := by rw [wt_mk, if_neg (by omega)]
          have hrl : tail.length ≤ wts (d + 1) x.l := encs_wt (fun y hy => hwf.mem hy) hr
          refine read_6_cut x.l s d p2 w hd hlz (by rw [hst, h1]; simp [crlf]) hsz hT fun u wx hu hus hbw => ?_
          refine list_cut x.l d tail p2 q u wx hd hlz hr (by omega) h2.symm hq hu hus (hT.keep hbw) (fun y hy bs' more' u' wx' g1 g2 g3 g4 g5 => ?_) (fun y hy bs' p' q' u' wx' g1 g2 g3 g4 g5 => ?_)
          · have hy2 := wts_mem (d := d + 1) hy
            exact read_all y.sz y (d + 1) bs' more' u' wx' (Nat.le_refl _) g1 (hwf.mem hy) (by omega) g3 g4 g5
          · have hy2 := wts_mem (d := d + 1) hy
            exact ih y (d + 1) bs' p' q' u' wx' (by have := sz_lt hy; omega) g1 (hwf.mem hy) (by omega) g2 g3 g4 g5
end Go.Proofs.YteghfinngilfgaaDoor.T
