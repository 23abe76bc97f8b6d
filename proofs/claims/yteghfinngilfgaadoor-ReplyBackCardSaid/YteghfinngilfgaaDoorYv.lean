import Derived.Deep.DeepCutAuto
import Derived.Laws.OwnMore
import Derived.OwnWalk
import Derived.Lib.AppendStr
import Derived.Lib.SliceRun
import Derived.Lib.SmallJoins
import Derived.IntWalk
import Derived.Lib.ItoaLen
import Derived.WalkMore
import Derived.Lib.AtoiAllCases
import Derived.Lib.OthersKept
import Derived.Laws.Runes
import Derived.Deep.LoopGhost
import Derived.Deep.RegionLaw
import Derived.Deep.AppendLies
import Derived.Test.YteghfinngilfgaaDoorProg
import Derived.Test.YteghfinngilfgaaDoorMem
import Derived.Test.YteghfinngilfgaaDoorYu
import Derived.WalkKit
import Derived.Outline
import Derived.WalkLawsBesides
import Derived.Deep.QuietTactic
import Derived.BigQuiet
import Derived.Lib.Hide
import Derived.Handy
import Derived.Deep.RegionHeld3
import Derived.Deep.DrawnRows
import Derived.KernelRfl
import Derived.Great.Walk
import Derived.Test.YteghfinngilfgaaDoorOwn
namespace Go.Proofs.YteghfinngilfgaaDoor.T
open Go Go.RowKit Go.Sort Mem Own
set_option maxRecDepth 100000
set_option maxHeartbeats 1000000
set_option linter.unusedVariables false
set_option linter.unusedSimpArgs false

/-- A reply's tree in blocks from B on. -/
def RdN (B : Nat) (w : World) (A : Option Addr) (x : T) : Prop := ∀ w' : World, (∀ k, B ≤ k → ∀ o, w.heap[k]? = some o → w'.heap[k]? = some o) → RdT w' A x
theorem RdN.rd {B : Nat} {w : World} {A : Option Addr} {x : T} (h : RdN B w A x) : RdT w A x := h w fun _ _ _ h => h
theorem RdN.set {B b i : Nat} {w : World} {A : Option Addr} {x : T} {u : Value} (h : RdN B w A x) (hb : b < B) : RdN B (w.setCell ⟨b, i, none⟩ u) A x := fun w' hw => h w' fun k hk o ho => hw k hk o (blk_off (by omega) ho)
theorem RdN.below {B : Nat} {w w1 : World} {A : Option Addr} {x : T} (h : RdN B w A x) (hb : Below w.heap.size w w1) : RdN B w1 A x := fun w' hw => h w' fun k hk o ho => hw k hk o (keep_blk hb ho)
theorem RdN.mn {B B' : Nat} {w : World} {A : Option Addr} {x : T} (h : RdN B w A x) (hb : B' ≤ B) : RdN B' w A x := fun w' hw => h w' fun k hk o ho => hw k (by omega) o ho
/-- What reply.list leaves. -/
def LOut (l : List T) (n : Nat) (B : Nat) (w : World) (e : Ending) (w' : World) : Prop := ∃ A c, e = .returned (.tuple #[.slice A l.length c, .int .i64 (n : Int), .int .i64 0]) ∧ RdN B w' A (.mk 6 0 ⟨#[]⟩ l) ∧ Below w.heap.size w w'
/-- What reply.read leaves. -/
def ROut (x : T) (n : Nat) (B : Nat) (w : World) (e : Ending) (w' : World) : Prop := ∃ A c, e = .returned (.tuple #[tV x.k x.z x.t A x.l.length c, .int .i64 (n : Int), .int .i64 0]) ∧ RdN B w' A x ∧ Below w.heap.size w w'
/-- reply.read of a list, from reply.list's answer. -/
theorem read_6 (l : List T) (s : ByteArray) (d : Nat) (n : Nat) (more : List UInt8) (w : World) (hd : d < 4) (hz : l.length ≤ 1024) (hn : n ≤ 100000000000000) (hs : s.toList = 42 :: (Lib.itoa (l.length : Int) ++ crlf) ++ more) (hsz : s.size ≤ 9223372036854775807) (hT : Tab w)
    (hls : ∀ (u : ByteArray) (wx : World), u.toList = more → u.size ≤ 9223372036854775807 → Below w.heap.size w wx → Calls Tryd.prog 37 #[.string u, .int .i64 (l.length : Int), .int .i64 (d : Int)] wx (LOut l n wx.heap.size wx)) :
    Calls Tryd.prog 25 #[.string s, .int .i64 (d : Int)] w (ROut (.mk 6 0 ⟨#[]⟩ l) ((Lib.itoa (l.length : Int)).length + 1 + 2 + n) w.heap.size w) := by
  have h0 : (-9223372036854775808 : Int) ≤ (l.length : Int) := by omega
  have h1 : (l.length : Int) ≤ 9223372036854775807 := by omega
  have hqs := dec_size (l.length : Int) h0 h1
  have hdt : (dec (l.length : Int)).toList = Lib.itoa (l.length : Int) := by rw [ByteArray.toList_eq]; rfl
  have hlt : (Lib.itoa (l.length : Int)).length = (dec (l.length : Int)).size := by rw [← hdt, toList_len]
  obtain ⟨q, hq⟩ : ∃ q, q = dec (l.length : Int) := ⟨_, rfl⟩
  obtain ⟨L, hL⟩ : ∃ L : List UInt8, L = 42 :: q.toList := ⟨_, rfl⟩
  have hql : q.toList = Lib.itoa (l.length : Int) := by rw [hq, hdt]
  have hLl : L.length = q.size + 1 := by rw [hL]; simp [toList_len]
  have HL := Lib.hid (fun wx => line_ok L s (more) wx (by rw [hs, hL, hql]; simp [crlf]) (by intro b hb; rw [hL, hql] at hb; rcases List.mem_cons.1 hb with rfl | h; decide; exact itoa_plain _ b h) (by rw [hq] at hLl; omega) hsz)
  have hp0 : 0 < s.size := by rw [← toList_len, hs]; simp
  have hg : s[0]'hp0 = 42 := by
    have := ba_get hp0
    rw [hs] at this; simpa using this.symm
  have hx : (⟨L.toArray⟩ : ByteArray).extract 1 (q.size + 1) = q := by rw [hL]; exact tail_ext 42 q
  have hLs : (⟨L.toArray⟩ : ByteArray).size = q.size + 1 := by show L.toArray.size = _; simp [hLl]
  have HI := Lib.hid (fun (wx : World) => (Tryd.strings_IndexByte ⟨#[43, 45, 58, 36, 42]⟩ 42 wx).mono (R' := fun e w' => e = .returned (.int .i64 4) ∧ wx = w') (fun e w' h => ⟨h.1, h.2.symm⟩))
  have HN := Lib.hid (new1 w #[.int .i64 0, .int .i64 0, .string ⟨#[]⟩, .slice none 0 0] 24)
  have hne : s.toList.isEmpty = false := by rw [hs]; rfl
  obtain ⟨x0, x1, x2, x3⟩ := cells4 HN.out.1
  have HT := Lib.hid hT
  have HNO := Lib.hid (show ∀ wx, Tab wx → Calls Tryd.prog 35 #[.string q, .int .i64 (0), .int .i64 1024] wx fun e w' => e = .returned (.tuple #[.int .i64 (l.length : Int), .int .i64 0]) ∧ Below wx.heap.size wx w' from fun wx hx => by rw [hq]; exact number_ok (l.length : Int) (0) 1024 wx h0 h1 (by omega) (by omega) hx)
  have hln : (Lib.itoa (l.length : Int)).length = q.size := by rw [← hql, toList_len]
  rw [hln]
  have hq21 : q.size ≤ 21 := by rw [hq]; exact hqs
  have hu : (s.extract (q.size + 1 + 2) s.size).toList = more := by
    rw [ext_from, hs]
    have e1 : 42 :: (Lib.itoa (l.length : Int) ++ crlf) ++ more = (42 :: (q.toList ++ [13, 10])) ++ more := by rw [hql]; simp [crlf]
    rw [e1]
    exact List.drop_left' (by simp [toList_len])
  have h3s : q.size + 1 + 2 ≤ s.size := by
    have := congrArg List.length hs
    rw [toList_len] at this
    simp [crlf] at this
    omega
  have huz : (s.extract (q.size + 1 + 2) s.size).size ≤ 9223372036854775807 := by simp; omega
  have HLS := Lib.hid (fun (wx : World) (hb : Below w.heap.size w wx) => hls (s.extract (q.size + 1 + 2) s.size) wx hu huz hb)
  obtain ⟨u, hU⟩ : ∃ u, u = s.extract (q.size + 1 + 2) s.size := ⟨_, rfl⟩
  have hU' := hU.symm
  rw [hU'] at HLS
  have h4 : decide ((d : Int) = 4) = false := by simp; omega
  clear hs hL hql hq hT hdt hlt hqs hln hu huz hU hls
  go_enter Tryd.func25, Tryd.ntmps25
  go_wp2_with (first
    | (go_at_call 33; refine Calls.mono (HI.out _) ?_; rintro e w1 ⟨rfl, rfl⟩)
    | (go_at_call 35; refine Calls.mono (HNO.out _ (HT.out.keep HB2.out)) ?_; (rintro e w3 ⟨rfl, hb3⟩; have HB3 := Lib.hid (HB2.out.trans (hb3.mono HB2.out.size)); have HX3 := Lib.hid (keep_blk hb3 HX2.out); clear hb3 x0 x1 x2 x3 f0 f1 f2 f3; obtain ⟨x0, x1, x2, x3⟩ := cells4 HX3.out; obtain ⟨f0, f1, f2, f3⟩ := frees4 HX3.out))
    | (go_at_call 34; refine Calls.mono (HL.out _) ?_; (rintro e w2 ⟨rfl, hb2⟩; have HB2 := Lib.hid (HN.out.2.trans (hb2.mono HN.out.2.size)); have HX2 := Lib.hid (keep_blk hb2 HN.out.1); clear hb2 x0 x1 x2 x3; obtain ⟨x0, x1, x2, x3⟩ := cells4 HX2.out; obtain ⟨f0, f1, f2, f3⟩ := frees4 HX2.out))
    | (go_at_call 37; (try rw [hU']); have HS6 := Lib.hid (show Below w.heap.size w (World.setCell _ ⟨w.heap.size, 0, none⟩ (.int .i64 6)) from Below.setCell HB3.out (Nat.le_refl _) _); refine Calls.mono (HLS.out _ HS6.out) ?_; (rintro e w6 ⟨A, c, rfl, hrd, hb6⟩; have HX6 := Lib.hid (keep_blk hb6 (set_0 (.int .i64 6) HX3.out)); have HB6 := Lib.hid (HS6.out.trans (hb6.mono HS6.out.size)); have HRD := Lib.hid (RdN.mn hrd (lt_of_blk (set_0 (.int .i64 6) HX3.out))); clear hb6 hrd x0 x1 x2 x3 f0 f1 f2 f3; obtain ⟨x0, x1, x2, x3⟩ := cells4 HX6.out; obtain ⟨f0, f1, f2, f3⟩ := frees4 HX6.out)))
  refine ret_reply rfl rfl rfl rfl (sets4 _ _ _ _ (set_3 _ HX6.out)) ?_
  refine ⟨A, c, ?_, RdN.mn (((((HRD.out.set (Nat.lt_succ_self _)).set (Nat.lt_succ_self _)).set (Nat.lt_succ_self _)).set (Nat.lt_succ_self _)).set (Nat.lt_succ_self _)) (Nat.le_succ _), below_sets4 (HB6.out.setCell (Nat.le_refl _) _) (Nat.le_refl _)⟩
  show Ending.returned (.tuple #[tV 6 0 ⟨#[]⟩ A l.length c, _, .int .i64 0]) = _
  simp [T.k, T.z, T.t, T.l]
end Go.Proofs.YteghfinngilfgaaDoor.T
