import Derived.Deep.DeepCutAuto
import Derived.Test.YtgakeclocbfnpaaDoorProg
import Derived.Test.YtgakeclocbfnpaaDoorShelf
import Derived.Test.YtgakeclocbfnpaaDoorMem
import Derived.Test.YtgakeclocbfnpaaDoorTa
import Derived.Test.YtgakeclocbfnpaaDoorTa2
import Derived.Test.YtgakeclocbfnpaaDoorTb
import Derived.Test.YtgakeclocbfnpaaDoorTc
import Derived.Test.YtgakeclocbfnpaaDoorTd
import Derived.Test.YtgakeclocbfnpaaDoorTe
import Derived.Test.YtgakeclocbfnpaaDoorTf
import Derived.Test.YtgakeclocbfnpaaDoorTg
import Derived.Test.YtgakeclocbfnpaaDoorTh
import Derived.Test.YtgakeclocbfnpaaDoorTi
import Derived.Test.YtgakeclocbfnpaaDoorTja
import Derived.Test.YtgakeclocbfnpaaDoorTj
import Derived.Test.YtgakeclocbfnpaaDoorTka
import Derived.Test.YtgakeclocbfnpaaDoorTkb
import Derived.Test.YtgakeclocbfnpaaDoorTk
import Derived.Test.YtgakeclocbfnpaaDoorTl
import Derived.Test.YtgakeclocbfnpaaDoorTm
import Derived.Test.YtgakeclocbfnpaaDoorTn
import Derived.Test.YtgakeclocbfnpaaDoorTo
import Derived.Test.YtgakeclocbfnpaaDoorTp
import Derived.Test.YtgakeclocbfnpaaDoorTq
import Derived.Test.YtgakeclocbfnpaaDoorTr
import Derived.Lib.ConvBytes
import Derived.Lib.SmallJoins
import Derived.Laws.IdiomStrings
import Derived.WalkKit
import Derived.Outline
import Derived.WalkLawsBesides
import Derived.Deep.QuietTactic
import Derived.BigQuiet
import Derived.Lib.Hide
import Derived.Handy
import Derived.Deep.RegionHeld3
import Derived.Deep.DrawnRows
import Derived.KernelRfl
import Derived.Sort.Walk0
import Derived.Great.Walk
import Derived.Test.YtgakeclocbfnpaaDoorOwn
namespace Go.Proofs.YtgakeclocbfnpaaDoor.T
open Go Go.RowKit Mem Own
set_option maxRecDepth 100000
set_option maxHeartbeats 1000000
set_option linter.unusedVariables false
set_option linter.unusedSimpArgs false

theorem fk_congr {s t : ByteArray} (h : up s = up t) : fk s = fk t := by unfold fk; rw [h]
theorem fsp_congr {s t : ByteArray} (h : up s = up t) : fsp s = fsp t := by unfold fsp; rw [fk_congr h]
theorem fis_congr {s t : ByteArray} (h : up s = up t) : fis s = fis t := by unfold fis; rw [fk_congr h]
/-- Block g begins with the bytes B, which may be written. -/
def Row8 (w : World) (g : Nat) (B : List UInt8) : Prop := ∃ (cs : Array Value) (N : Nat), w.heap[g]? = some (.cells cs 5 (N, N + 1)) ∧ B.length ≤ N ∧ ∀ j (h : j < B.length), cs[j]? = some (.int .u8 (B[j].toNat : Int))
theorem Row8.cell {w : World} {g : Nat} {B : List UInt8} (h : Row8 w g B) {j : Nat} (hj : j < B.length) : w.cell? ⟨g, j, none⟩ = some (.int .u8 (B[j].toNat : Int)) := by
  obtain ⟨cs, N, h1, h2, h3⟩ := h
  simp [World.cell?, h1, h3 j hj]
theorem Row8.free {w : World} {g : Nat} {B : List UInt8} (h : Row8 w g B) {j : Nat} (hj : j < B.length) : w.frozen? ⟨g, j, none⟩ = false := by
  obtain ⟨cs, N, h1, h2, h3⟩ := h
  simp [World.frozen?, h1]; omega
theorem Row8.set {w : World} {g : Nat} {B : List UInt8} (h : Row8 w g B) {j : Nat} (hj : j < B.length) (c : UInt8) : Row8 (w.setCell ⟨g, j, none⟩ (.int .u8 (c.toNat : Int))) g (B.set j c) := by
  obtain ⟨cs, N, h1, h2, h3⟩ := h
  refine ⟨_, N, heap_set h1 _, by simpa using h2, fun i hi => ?_⟩
  have hi' : i < B.length := by simpa using hi
  rw [Array.getElem?_setIfInBounds, List.getElem_set]
  have hc : j < cs.size := by
    have := h3 j hj
    rcases Nat.lt_or_ge j cs.size with h | h
    · exact h
    · rw [Array.getElem?_eq_none h] at this; cases this
  by_cases e : j = i
  · subst e; simp [hc]
  · simp [e, h3 i hi']
theorem Row8.keep {w w1 : World} {g : Nat} {B : List UInt8} (h : Row8 w g B) (hb : Below w.heap.size w w1) : Row8 w1 g B := by
  obtain ⟨cs, N, h1, h2, h3⟩ := h
  exact ⟨cs, N, keep_block hb h1, h2, h3⟩

theorem row_new (w : World) (s : ByteArray) : Row8 (Lib.bytesWorld w 5 s) w.heap.size s.data.toList := by
  refine ⟨Lib.bytesCells w 5 s, (Lib.bytesCells w 5 s).size, Lib.bytesWorld_at_new w 5 s, ?_, fun j hj => ?_⟩
  · simp [Lib.bytesCells]
  · have hj' : j < s.size := by simpa using hj
    simp [Lib.bytesCells, Array.getElem?_append, hj']
theorem bytes_below (w : World) (s : ByteArray) : Below w.heap.size w (Lib.bytesWorld w 5 s) :=
  Joins.below_bytesWorld _ w 5 s (Nat.le_refl _)
theorem xor_u8 (x : UInt8) : bits BinOp.xor IntKind.u8 (x.toNat : Int) 32 = ((x ^^^ 32).toNat : Int) := by
  have h : ∀ n : Fin 256, bits BinOp.xor IntKind.u8 (n.val : Int) 32 = ((UInt8.ofNat n.val ^^^ 32).toNat : Int) := by decide +kernel
  have := h ⟨x.toNat, x.toNat_lt⟩
  simpa using this
theorem upc_turn (x : UInt8) (h : (65 ≤ (x.toNat : Int) ∧ (x.toNat : Int) ≤ 90) ∨ (97 ≤ (x.toNat : Int) ∧ (x.toNat : Int) ≤ 122)) : upc (x ^^^ 32) = upc x := by
  have h' : ∀ n : Fin 256, ((65 ≤ n.val ∧ n.val ≤ 90) ∨ (97 ≤ n.val ∧ n.val ≤ 122)) → upc (UInt8.ofNat n.val ^^^ 32) = upc (UInt8.ofNat n.val) := by decide +kernel
  have := h' ⟨x.toNat, x.toNat_lt⟩ (by simp only []; omega)
  simpa using this
theorem turn_map {B : List UInt8} {k : Nat} (hk : k < B.length) {x : UInt8} (hx : x = B[k]) (h : (65 ≤ (x.toNat : Int) ∧ (x.toNat : Int) ≤ 90) ∨ (97 ≤ (x.toNat : Int) ∧ (x.toNat : Int) ≤ 122)) : (B.set k (x ^^^ 32)).map upc = B.map upc := by
  rw [List.map_set, upc_turn x h, hx]
  have : upc B[k] = (B.map upc)[k]'(by simpa using hk) := by simp
  rw [this, List.set_getElem_self]
/-- TableLetters -/
theorem tableLetters_is (s : ByteArray) (A : Option Addr) (n c : Nat) (T : Nat → Bool) (w : World) (hs : s.size ≤ maxLen) (hn : n ≤ maxLen) (ht : 0 < n → ∃ b off, A = some ⟨b, off, none⟩ ∧ ∀ i, i < n → w.cell? ⟨b, off + i, none⟩ = some (.bool (T i))) (hT : U8 w) :
    Calls Tryd.prog 7 #[.string s, .slice A n c] w fun e w' => e = .returned (.bool true) ∧ Below w.heap.size w w' := by
  unfold maxLen at hs hn
  have HT := Lib.hid hT; have HN := Lib.hid ht
  clear hT ht
  go_enter Tryd.func7, Tryd.ntmps7
  go_upto_region 1 with fail
  go_cut [5] (fun s5 wx => ∃ g cap : Nat, s5 = .slice (some ⟨g, 0, none⟩) s.size cap ∧ w.heap.size ≤ g ∧ RowKit.Hid (Row8 wx g s.data.toList) ∧ RowKit.Hid (Below w.heap.size w wx))
  case first =>
    have kc := Lib.run_convert_string_bytes (P := Tryd.prog) w 9 39 5 s Tryd.underlying9 Tryd.underlying39 Tryd.underlying5
    go_wp2
    go_meet
    exact ⟨_, _, rfl, Nat.le_refl _, Lib.hid (row_new w s), Lib.hid (bytes_below w s)⟩
  case rest =>
    obtain ⟨g, cap, rfl, hg, HR0, HB0⟩ := hcut
    go_wp2_with fail
    go_loopw [17] (fun s17 wr => ∃ (k : Nat) (B : List UInt8), k ≤ s.size ∧ s17 = .int .i64 k ∧ B.length = s.size ∧ RowKit.Hid (B.map upc = up s) ∧ RowKit.Hid (Row8 wr g B) ∧ RowKit.Hid (Below w.heap.size w wr)) (fun s17 _ => s.size - (intOf s17).toNat)
    case atStart => exact ⟨0, s.data.toList, Nat.zero_le _, rfl, rfl, Lib.hid rfl, HR0, HB0⟩
    case round =>
      obtain ⟨k, B, hk, rfl, hBl, HU, HR, HB⟩ := hrel
      by_cases hlt : k < s.size
      · have hkB : k < B.length := by omega
        have hc0 := HR.out.cell hkB
        have hf0 := HR.out.free hkB
        obtain ⟨x, hx⟩ : ∃ x, x = B[k] := ⟨_, rfl⟩
        rw [← hx] at hc0
        have hx256 := x.toNat_lt
        have HX := Lib.hid hx
        have HBL := Lib.hid hBl
        clear hx hBl
        by_cases hkn : k < n
        · obtain ⟨b1, o1, rfl, hcells⟩ := HN.out (by omega)
          have ht0 := cell_below HB.out (hcells k hkn)
          clear hcells
          cases htk : T k
          · rw [htk] at ht0
            clear htk
            by_cases h1 : 65 ≤ (x.toNat : Int) <;> by_cases h2 : (x.toNat : Int) ≤ 90 <;> by_cases h3 : 97 ≤ (x.toNat : Int) <;> by_cases h4 : (x.toNat : Int) ≤ 122
            all_goals first
              | omega
              | (go_wp2
                 exact ⟨⟨k + 1, B, by omega, by go_num, HBL.out, HU, HR, HB⟩, by simp [intOf]; omega⟩)
          · rw [htk] at ht0
            clear htk
            by_cases h1 : 65 ≤ (x.toNat : Int) <;> by_cases h2 : (x.toNat : Int) ≤ 90 <;> by_cases h3 : 97 ≤ (x.toNat : Int) <;> by_cases h4 : (x.toNat : Int) ≤ 122
            all_goals first
              | omega
              | (go_wp2
                 first
                 | exact ⟨⟨k + 1, B, by omega, by go_num, HBL.out, HU, HR, HB⟩, by simp [intOf]; omega⟩
                 | exact ⟨⟨k + 1, B.set k (x ^^^ 32), by omega, by go_num, by simp; exact HBL.out, Lib.hid ((turn_map hkB HX.out (by omega)).trans HU.out), Lib.hid (by rw [xor_u8]; exact HR.out.set hkB _), Lib.hid (HB.out.setCell hg _)⟩, by simp [intOf]; omega⟩)
        · by_cases h1 : 65 ≤ (x.toNat : Int) <;> by_cases h2 : (x.toNat : Int) ≤ 90 <;> by_cases h3 : 97 ≤ (x.toNat : Int) <;> by_cases h4 : (x.toNat : Int) ≤ 122
          all_goals first
            | omega
            | (go_wp2
               exact ⟨⟨k + 1, B, by omega, by go_num, HBL.out, HU, HR, HB⟩, by simp [intOf]; omega⟩)
      · obtain ⟨t, ht⟩ : ∃ t : ByteArray, t = ⟨B.toArray⟩ := ⟨_, rfl⟩
        have htl : t.size = B.length := by rw [ht]; rfl
        have hts : t.size ≤ maxLen := by unfold maxLen; omega
        have hU : up t = up s := by rw [← HU.out, ht]; rfl
        obtain ⟨p, hp⟩ : ∃ p, p = fsp s := ⟨_, rfl⟩
        obtain ⟨f, hf⟩ : ∃ f, f = fis s := ⟨_, rfl⟩
        have HP := Lib.hid hp; have HF := Lib.hid hf
        have HP2 := Lib.hid (hp.trans (fsp_congr hU.symm)); have HF2 := Lib.hid (hf.trans (fis_congr hU.symm))
        have HT1 := Lib.hid ht
        have HBL := Lib.hid hBl
        clear hp hf hU ht htl hBl
        go_upto_region 10 with fail
        go_cut [9, 10] (fun s9 s10 wx => ∃ b9 : Nat, s9 = .pointer (some ⟨b9, 0, none⟩) ∧ s10 = .bool f ∧ RowKit.Hid (wx.heap[b9]? = some (spO p)) ∧ RowKit.Hid (Row8 wx g B) ∧ RowKit.Hid (Below w.heap.size w wx))
        case first =>
          go_wp2_with fail
          refine Calls.mono (find_is s _ (by unfold maxLen; omega) (HT.out.below HB.out)) ?_
          rintro e w1 ⟨rfl, hb1⟩
          rw [← HP.out, ← HF.out]
          have HR1 := Lib.hid (HR.out.keep hb1)
          have HB1 := Lib.hid (HB.out.trans (hb1.mono HB.out.size))
          clear hb1
          go_wp2
          go_meet
          exact ⟨_, rfl, rfl, Lib.hid (heap_alloc_new _ _), Lib.hid (HR1.out.keep ((Below.refl _ _).alloc (Nat.le_refl _) _)), Lib.hid (HB1.out.alloc HB1.out.size _)⟩
        case rest =>
          obtain ⟨b9, rfl, rfl, H9, HR9, HB9⟩ := hcut
          go_upto_region 11 with fail
          go_cut [11, 12] (fun s11 s12 wx => ∃ b11 : Nat, s11 = .pointer (some ⟨b11, 0, none⟩) ∧ s12 = .bool f ∧ RowKit.Hid (wx.heap[b9]? = some (spO p)) ∧ RowKit.Hid (wx.heap[b11]? = some (spO p)) ∧ RowKit.Hid (Below w.heap.size w wx))
          case first =>
            have kc : (convert 39 9 (.slice (some ⟨g, 0, none⟩) s.size cap)).run Tryd.prog wc = .ok (.string t) wc := by
              have := run_convert_bytes_back (P := Tryd.prog) wc 39 9 5 ⟨g, 0, none⟩ cap B Tryd.underlying39 Tryd.underlying5 Tryd.underlying9 (fun j hj => by
                have := HR9.out.cell hj
                rw [← this]; by_cases hz : j = 0
                · subst hz; simp [Addr.add]
                · simp [Addr.add, hz])
              rw [HBL.out, ← HT1.out] at this
              exact this
            go_wp2_with fail
            refine Calls.mono (find_is t _ hts (HT.out.below HB9.out)) ?_
            rintro e w1 ⟨rfl, hb1⟩
            rw [← HP2.out, ← HF2.out]
            have H91 := Lib.hid (keep_block hb1 H9.out)
            have HB1 := Lib.hid (HB9.out.trans (hb1.mono HB9.out.size))
            clear hb1 kc
            go_wp2
            go_meet
            exact ⟨_, rfl, rfl, Lib.hid (keep_block ((Below.refl _ _).alloc (Nat.le_refl _) _) H91.out), Lib.hid (heap_alloc_new _ _), Lib.hid (HB1.out.alloc HB1.out.size _)⟩
          case rest =>
            obtain ⟨b5, rfl, rfl, H3, H5, HBe⟩ := hcut
            go_wp2_with (go_at_call 11; refine Calls.mono (alive_is _ (HT.out.below HBe.out)) ?_; rintro e w3 ⟨rfl, hb3⟩; obtain ⟨d0, d1, d2, d3, d4, d5, d6⟩ := facts7 (keep_block hb3 H3.out); obtain ⟨e0, e1, e2, e3, e4, e5, e6⟩ := facts7 (keep_block hb3 H5.out); have HB3 := Lib.hid hb3; clear hb3)
            go_ret
            exact ⟨rfl, HBe.out.trans (HB3.out.mono HBe.out.size)⟩
end Go.Proofs.YtgakeclocbfnpaaDoor.T
