import Derived.Deep.DeepCutAuto
import Derived.Laws.OwnMore
import Derived.OwnWalk
import Derived.Lib.AppendStr
import Derived.Lib.SliceRun
import Derived.Lib.SmallJoins
import Derived.IntWalk
import Derived.Lib.ItoaLen
import Derived.WalkMore
import Derived.Lib.AtoiAllCases
import Derived.Lib.OthersKept
import Derived.Laws.Runes
import Derived.Deep.LoopGhost
import Derived.Deep.RegionLaw
import Derived.Deep.AppendLies
import Derived.Test.YteghfinngilfgaaDoorProg
import Derived.Test.YteghfinngilfgaaDoorMem
import Derived.Test.YteghfinngilfgaaDoorYt
import Derived.WalkKit
import Derived.Outline
import Derived.WalkLawsBesides
import Derived.Deep.QuietTactic
import Derived.BigQuiet
import Derived.Lib.Hide
import Derived.Handy
import Derived.Deep.RegionHeld3
import Derived.Deep.DrawnRows
import Derived.KernelRfl
import Derived.Great.Walk
import Derived.Test.YteghfinngilfgaaDoorOwn
namespace Go.Proofs.YteghfinngilfgaaDoor.T
open Go Go.RowKit Go.Sort Mem Own
set_option maxRecDepth 100000
set_option maxHeartbeats 1000000
set_option linter.unusedVariables false
set_option linter.unusedSimpArgs false

theorem set_0 {w : World} {b T : Nat} {v0 v1 v2 v3 : Value} (u : Value) (h : w.heap[b]? = some (.cells #[v0, v1, v2, v3] T (0, 0))) : (w.setCell ⟨b, 0, none⟩ u).heap[b]? = some (.cells #[u, v1, v2, v3] T (0, 0)) := by
  simp [World.setCell, Array.getElem?_modify, h]
theorem set_2 {w : World} {b T : Nat} {v0 v1 v2 v3 : Value} (u : Value) (h : w.heap[b]? = some (.cells #[v0, v1, v2, v3] T (0, 0))) : (w.setCell ⟨b, 2, none⟩ u).heap[b]? = some (.cells #[v0, v1, u, v3] T (0, 0)) := by
  simp [World.setCell, Array.getElem?_modify, h]
theorem set_3 {w : World} {b T : Nat} {v0 v1 v2 v3 : Value} (u : Value) (h : w.heap[b]? = some (.cells #[v0, v1, v2, v3] T (0, 0))) : (w.setCell ⟨b, 3, none⟩ u).heap[b]? = some (.cells #[v0, v1, v2, u] T (0, 0)) := by
  simp [World.setCell, Array.getElem?_modify, h]
theorem ext_from (s : ByteArray) (m : Nat) : (s.extract m s.size).toList = s.toList.drop m := by
  rw [ByteArray.toList_eq, ByteArray.data_extract, Array.toList_extract, List.extract_eq_take_drop, ← ByteArray.toList_eq, List.take_of_length_le]
  rw [List.length_drop, toList_len]
  exact Nat.le_refl _
/-- reply.read of a text. -/
theorem read_4 (t s : ByteArray) (d : Int) (more : List UInt8) (w : World) (hz : t.size ≤ 65536) (hs : s.toList = 36 :: (Lib.itoa (t.size : Int) ++ (crlf ++ (t.toList ++ crlf))) ++ more) (hsz : s.size ≤ 9223372036854775807) (hT : Tab w) :
    Calls Tryd.prog 25 #[.string s, .int .i64 d] w fun e w' => e = .returned (.tuple #[tV 4 0 t none 0 0, .int .i64 (((Lib.itoa (t.size : Int)).length : Int) + 1 + 2 + ((t.size : Int) + 2)), .int .i64 0]) ∧ Below w.heap.size w w' := by
  have h0 : (-9223372036854775808 : Int) ≤ (t.size : Int) := by omega
  have h1 : (t.size : Int) ≤ 9223372036854775807 := by omega
  have hqs := dec_size (t.size : Int) h0 h1
  have hdt : (dec (t.size : Int)).toList = Lib.itoa (t.size : Int) := by rw [ByteArray.toList_eq]; rfl
  have hlt : (Lib.itoa (t.size : Int)).length = (dec (t.size : Int)).size := by rw [← hdt, toList_len]
  obtain ⟨q, hq⟩ : ∃ q, q = dec (t.size : Int) := ⟨_, rfl⟩
  obtain ⟨L, hL⟩ : ∃ L : List UInt8, L = 36 :: q.toList := ⟨_, rfl⟩
  have hql : q.toList = Lib.itoa (t.size : Int) := by rw [hq, hdt]
  have hLl : L.length = q.size + 1 := by rw [hL]; simp [toList_len]
  have HL := Lib.hid (fun wx => line_ok L s (t.toList ++ crlf ++ more) wx (by rw [hs, hL, hql]; simp [crlf]) (by intro b hb; rw [hL, hql] at hb; rcases List.mem_cons.1 hb with rfl | h; decide; exact itoa_plain _ b h) (by rw [hq] at hLl; omega) hsz)
  have hp0 : 0 < s.size := by rw [← toList_len, hs]; simp
  have hg : s[0]'hp0 = 36 := by
    have := ba_get hp0
    rw [hs] at this; simpa using this.symm
  have hx : (⟨L.toArray⟩ : ByteArray).extract 1 (q.size + 1) = q := by rw [hL]; exact tail_ext 36 q
  have hLs : (⟨L.toArray⟩ : ByteArray).size = q.size + 1 := by show L.toArray.size = _; simp [hLl]
  have HI := Lib.hid (fun (wx : World) => (Tryd.strings_IndexByte ⟨#[43, 45, 58, 36, 42]⟩ 36 wx).mono (R' := fun e w' => e = .returned (.int .i64 3) ∧ wx = w') (fun e w' h => ⟨h.1, h.2.symm⟩))
  have HN := Lib.hid (new1 w #[.int .i64 0, .int .i64 0, .string ⟨#[]⟩, .slice none 0 0] 24)
  have hne : s.toList.isEmpty = false := by rw [hs]; rfl
  obtain ⟨x0, x1, x2, x3⟩ := cells4 HN.out.1
  have HT := Lib.hid hT
  have HNO := Lib.hid (show ∀ wx, Tab wx → Calls Tryd.prog 35 #[.string q, .int .i64 (-1), .int .i64 65536] wx fun e w' => e = .returned (.tuple #[.int .i64 (t.size : Int), .int .i64 0]) ∧ Below wx.heap.size wx w' from fun wx hx => by rw [hq]; exact number_ok (t.size : Int) (-1) 65536 wx h0 h1 (by omega) (by omega) hx)
  have hln : ((Lib.itoa (t.size : Int)).length : Int) = (q.size : Int) := by rw [← hql, toList_len]
  rw [hln]
  have hq21 : q.size ≤ 21 := by rw [hq]; exact hqs
  have hu : (s.extract (q.size + 1 + 2) s.size).toList = t.toList ++ (13 :: 10 :: more) := by
    rw [ext_from, hs]
    have e1 : 36 :: (Lib.itoa (t.size : Int) ++ (crlf ++ (t.toList ++ crlf))) ++ more = (36 :: (q.toList ++ [13, 10])) ++ (t.toList ++ (13 :: 10 :: more)) := by rw [hql]; simp [crlf]
    rw [e1]
    exact List.drop_left' (by simp [toList_len])
  have hssz : q.size + 1 + 2 + (t.size + 2) ≤ s.size := by
    have := congrArg List.length hs
    rw [toList_len] at this
    simp [crlf, toList_len] at this
    have hq2 : (Lib.itoa (t.size : Int)).length = q.size := by omega
    omega
  obtain ⟨u, hU⟩ : ∃ u, u = s.extract (q.size + 1 + 2) s.size := ⟨_, rfl⟩
  rw [← hU] at hu
  have huz : u.size = t.size + 2 + more.length := by rw [← toList_len, hu]; simp [toList_len]; omega
  have hut : u.extract 0 t.size = t := by
    apply ba_list
    rw [ext_list, hu, ← toList_len t, List.take_left' rfl]
  have HBK := Lib.hid (show ∀ wx, Calls Tryd.prog 36 #[.string u, .int .i64 (t.size : Int)] wx fun e w' => e = .returned (.tuple #[.string t, .int .i64 0]) ∧ Below wx.heap.size wx w' from fun wx => (bulk_gen t.size u wx (fun _ => by rw [hu, List.getElem?_append_right (by rw [toList_len]; omega), toList_len]; simp) (fun _ => by rw [hu, List.getElem?_append_right (by rw [toList_len]; omega), toList_len]; simp) (by omega) (by rw [hU]; simp; omega)).mono (fun e w' h => by rw [if_pos (by omega), hut] at h; exact h))
  have hU' := hU.symm
  have h3s : q.size + 1 + 2 ≤ s.size := by omega
  clear hs hL hql hq hT hdt hlt hqs hln hu huz hut hU
  go_enter Tryd.func25, Tryd.ntmps25
  go_wp2_with (first
    | (go_at_call 33; refine Calls.mono (HI.out _) ?_; rintro e w1 ⟨rfl, rfl⟩)
    | (go_at_call 35; refine Calls.mono (HNO.out _ (HT.out.keep HB2.out)) ?_; (rintro e w3 ⟨rfl, hb3⟩; have HB3 := Lib.hid (HB2.out.trans (hb3.mono HB2.out.size)); have HX3 := Lib.hid (keep_blk hb3 HX2.out); clear hb3 x0 x1 x2 x3 f0 f1 f2 f3; obtain ⟨x0, x1, x2, x3⟩ := cells4 HX3.out; obtain ⟨f0, f1, f2, f3⟩ := frees4 HX3.out))
    | (go_at_call 34; refine Calls.mono (HL.out _) ?_; (rintro e w2 ⟨rfl, hb2⟩; have HB2 := Lib.hid (HN.out.2.trans (hb2.mono HN.out.2.size)); have HX2 := Lib.hid (keep_blk hb2 HN.out.1); clear hb2 x0 x1 x2 x3; obtain ⟨x0, x1, x2, x3⟩ := cells4 HX2.out; obtain ⟨f0, f1, f2, f3⟩ := frees4 HX2.out))
    | (go_at_call 36; (try rw [hU']); refine Calls.mono (HBK.out _) ?_; (rintro e w6 ⟨rfl, hb6⟩; have HS6 := Lib.hid (show Below w.heap.size w (World.setCell _ ⟨w.heap.size, 0, none⟩ (.int .i64 4)) from Below.setCell (below_sets4 HB3.out (Nat.le_refl _) (u0 := .int .i64 5) (u1 := .int .i64 0) (u2 := .string ⟨#[]⟩) (u3 := .slice none 0 0)) (Nat.le_refl _) _); have HX6 := Lib.hid (keep_blk hb6 (set_0 (.int .i64 4) (sets4 (.int .i64 5) (.int .i64 0) (.string ⟨#[]⟩) (.slice none 0 0) HX3.out))); have HB6 := Lib.hid (HS6.out.trans (hb6.mono HS6.out.size)); clear hb6 x0 x1 x2 x3 f0 f1 f2 f3; obtain ⟨x0, x1, x2, x3⟩ := cells4 HX6.out; obtain ⟨f0, f1, f2, f3⟩ := frees4 HX6.out)))
  refine ret_reply rfl rfl rfl rfl (sets4 _ _ _ _ (set_2 _ HX6.out)) ?_
  exact ⟨rfl, below_sets4 (HB6.out.setCell (Nat.le_refl _) _) (Nat.le_refl _)⟩
end Go.Proofs.YteghfinngilfgaaDoor.T
