import Derived.Deep.DeepCutAuto
import Derived.Laws.OwnMore
import Derived.OwnWalk
import Derived.Lib.AppendStr
import Derived.Lib.SliceRun
import Derived.Lib.SmallJoins
import Derived.IntWalk
import Derived.WalkMore
import Derived.Lib.OthersKept
import Derived.Deep.LoopGhost
import Derived.Deep.RegionLaw
import Derived.Deep.AppendLies
import Derived.Test.YtmflalnajinejaaProg
import Derived.Test.YtmflalnajinejaaMem
import Derived.Test.YtmflalnajinejaaBlk
import Derived.Test.YtmflalnajinejaaAp
import Derived.Test.YtmflalnajinejaaKd
import Derived.Test.YtmflalnajinejaaKf
import Derived.Test.YtmflalnajinejaaKg
import Derived.WalkKit
import Derived.Outline
import Derived.WalkLawsBesides
import Derived.Deep.QuietTactic
import Derived.BigQuiet
import Derived.Lib.Hide
import Derived.Handy
import Derived.Deep.RegionHeld3
import Derived.Deep.DrawnRows
import Derived.KernelRfl
import Derived.Great.Walk
import Derived.Test.YtmflalnajinejaaOwn
namespace Go.Proofs.Ytmflalnajinejaa.T
open Go Go.RowKit Go.Sort Mem Own
set_option maxRecDepth 100000
set_option maxHeartbeats 1000000
set_option linter.unusedVariables false
set_option linter.unusedSimpArgs false

theorem cells13 {w : World} {b T : Nat} {v0 v1 v2 v3 v4 v5 v6 v7 v8 v9 v10 v11 v12 : Value} (h : w.heap[b]? = some (.cells #[v0, v1, v2, v3, v4, v5, v6, v7, v8, v9, v10, v11, v12] T (0, 0))) :
    w.cell? ⟨b, 0, none⟩ = some v0 ∧ w.cell? ⟨b, 1, none⟩ = some v1 ∧ w.cell? ⟨b, 2, none⟩ = some v2 ∧ w.cell? ⟨b, 3, none⟩ = some v3 ∧ w.cell? ⟨b, 4, none⟩ = some v4 ∧ w.cell? ⟨b, 5, none⟩ = some v5 ∧ w.cell? ⟨b, 6, none⟩ = some v6 ∧ w.cell? ⟨b, 7, none⟩ = some v7 ∧ w.cell? ⟨b, 8, none⟩ = some v8 ∧ w.cell? ⟨b, 9, none⟩ = some v9 ∧ w.cell? ⟨b, 10, none⟩ = some v10 ∧ w.cell? ⟨b, 11, none⟩ = some v11 ∧ w.cell? ⟨b, 12, none⟩ = some v12 := ⟨of_blk h 0, of_blk h 1, of_blk h 2, of_blk h 3, of_blk h 4, of_blk h 5, of_blk h 6, of_blk h 7, of_blk h 8, of_blk h 9, of_blk h 10, of_blk h 11, of_blk h 12⟩
/-- ref18.Same -/
def sameL (x y : Lt) : Bool := sameB x.rep y.rep && sameA x.args y.args && (x.kind == y.kind) && (x.num == y.num) && (x.slot == y.slot) && (x.ends == y.ends) && (x.key.toList == y.key.toList) && (x.text.toList == y.text.toList) && (x.good == y.good) && (x.asking == y.asking)
theorem sameL_self (x : Lt) : sameL x x = true := by simp [sameL, same_refl, sameA_self]
set_option maxHeartbeats 4000000 in
theorem lsame_raw (kind num slot ends kind' num' slot' ends' k z k' z' asking asking' : Int) (key text key' text' t t' : ByteArray) (good good' : Bool) (A1 A2 B1 B2 : Option Addr) (N N' M M' C1 C2 D1 D2 : Nat) (r a : Bool) (w : World)
    (H26 : ∀ wx, Below w.heap.size w wx → Calls Try.prog 26 #[.agg #[.int .i64 k, .int .i64 z, .string t, .slice B1 M D1], .agg #[.int .i64 k', .int .i64 z', .string t', .slice B2 M' D2]] wx fun e w' => e = .returned (.bool r) ∧ Below wx.heap.size wx w')
    (H27 : ∀ wx, Below w.heap.size w wx → Calls Try.prog 27 #[.slice A1 N C1, .slice A2 N' C2] wx fun e w' => e = .returned (.bool a) ∧ Below wx.heap.size wx w') :
    Calls Try.prog 15 #[.agg #[.int .i64 kind, .int .i64 num, .int .i64 slot, .int .i64 ends, .string key, .string text, .slice A1 N C1, .int .i64 k, .int .i64 z, .string t, .slice B1 M D1, .bool good, .int .i64 asking], .agg #[.int .i64 kind', .int .i64 num', .int .i64 slot', .int .i64 ends', .string key', .string text', .slice A2 N' C2, .int .i64 k', .int .i64 z', .string t', .slice B2 M' D2, .bool good', .int .i64 asking']] w fun e w' => e = .returned (.bool (r && a && (kind == kind') && (num == num') && (slot == slot') && (ends == ends') && (key.toList == key'.toList) && (text.toList == text'.toList) && (good == good') && (asking == asking'))) ∧ Below w.heap.size w w' := by
  have HN := Lib.hid (new2 w #[.int .i64 kind, .int .i64 num, .int .i64 slot, .int .i64 ends, .string key, .string text, .slice A1 N C1, .int .i64 k, .int .i64 z, .string t, .slice B1 M D1, .bool good, .int .i64 asking] #[.int .i64 kind', .int .i64 num', .int .i64 slot', .int .i64 ends', .string key', .string text', .slice A2 N' C2, .int .i64 k', .int .i64 z', .string t', .slice B2 M' D2, .bool good', .int .i64 asking'] 33 33)
  obtain ⟨n1, n2, n3⟩ := HN.out
  have HX := Lib.hid n1
  have HY := Lib.hid n2
  have HB := Lib.hid n3
  have HQ26 := Lib.hid H26
  have HQ27 := Lib.hid H27
  obtain ⟨x0, x1, x2, x3, x4, x5, x6, x7, x8, x9, x10, x11, x12⟩ := cells13 n1
  obtain ⟨y0, y1, y2, y3, y4, y5, y6, y7, y8, y9, y10, y11, y12⟩ := cells13 n2
  clear n1 n2 n3 H26 H27 HN
  cases r with
  | false =>
    go_enter Try.func15, Try.ntmps15
    go_wp2_with (first
      | (go_at_call 26; refine (HQ26.out _ HB.out).mono ?_; rintro e w2 ⟨rfl, hb2⟩; have HX2 := Lib.hid (keep_blk hb2 HX.out); have HY2 := Lib.hid (keep_blk hb2 HY.out); have HB2 := Lib.hid (HB.out.trans (hb2.mono HB.out.size)); clear hb2 x0 x1 x2 x3 x4 x5 x6 x7 x8 x9 x10 x11 x12 y0 y1 y2 y3 y4 y5 y6 y7 y8 y9 y10 y11 y12; obtain ⟨x0, x1, x2, x3, x4, x5, x6, x7, x8, x9, x10, x11, x12⟩ := cells13 HX2.out; obtain ⟨y0, y1, y2, y3, y4, y5, y6, y7, y8, y9, y10, y11, y12⟩ := cells13 HY2.out)
      | (go_at_call 27; refine (HQ27.out _ HB2.out).mono ?_; rintro e w3 ⟨rfl, hb3⟩; have HX3 := Lib.hid (keep_blk hb3 HX2.out); have HY3 := Lib.hid (keep_blk hb3 HY2.out); have HB3 := Lib.hid (HB2.out.trans (hb3.mono HB2.out.size)); clear hb3 x0 x1 x2 x3 x4 x5 x6 x7 x8 x9 x10 x11 x12 y0 y1 y2 y3 y4 y5 y6 y7 y8 y9 y10 y11 y12; obtain ⟨x0, x1, x2, x3, x4, x5, x6, x7, x8, x9, x10, x11, x12⟩ := cells13 HX3.out; obtain ⟨y0, y1, y2, y3, y4, y5, y6, y7, y8, y9, y10, y11, y12⟩ := cells13 HY3.out))
    go_ret
    exact ⟨by simp only [Bool.false_and, Bool.and_false]; rfl, HB3.out⟩
  | true =>
    cases a with
    | false =>
      go_enter Try.func15, Try.ntmps15
      go_wp2_with (first
        | (go_at_call 26; refine (HQ26.out _ HB.out).mono ?_; rintro e w2 ⟨rfl, hb2⟩; have HX2 := Lib.hid (keep_blk hb2 HX.out); have HY2 := Lib.hid (keep_blk hb2 HY.out); have HB2 := Lib.hid (HB.out.trans (hb2.mono HB.out.size)); clear hb2 x0 x1 x2 x3 x4 x5 x6 x7 x8 x9 x10 x11 x12 y0 y1 y2 y3 y4 y5 y6 y7 y8 y9 y10 y11 y12; obtain ⟨x0, x1, x2, x3, x4, x5, x6, x7, x8, x9, x10, x11, x12⟩ := cells13 HX2.out; obtain ⟨y0, y1, y2, y3, y4, y5, y6, y7, y8, y9, y10, y11, y12⟩ := cells13 HY2.out)
        | (go_at_call 27; refine (HQ27.out _ HB2.out).mono ?_; rintro e w3 ⟨rfl, hb3⟩; have HX3 := Lib.hid (keep_blk hb3 HX2.out); have HY3 := Lib.hid (keep_blk hb3 HY2.out); have HB3 := Lib.hid (HB2.out.trans (hb3.mono HB2.out.size)); clear hb3 x0 x1 x2 x3 x4 x5 x6 x7 x8 x9 x10 x11 x12 y0 y1 y2 y3 y4 y5 y6 y7 y8 y9 y10 y11 y12; obtain ⟨x0, x1, x2, x3, x4, x5, x6, x7, x8, x9, x10, x11, x12⟩ := cells13 HX3.out; obtain ⟨y0, y1, y2, y3, y4, y5, y6, y7, y8, y9, y10, y11, y12⟩ := cells13 HY3.out))
      go_ret
      exact ⟨by simp only [Bool.false_and, Bool.and_false]; rfl, HB3.out⟩
    | true =>
      by_cases h_kind : kind = kind'
      case neg =>
        have b_kind : (kind == kind') = false := by simpa using h_kind
        clear h_kind
        go_enter Try.func15, Try.ntmps15
        go_wp2_with (first
          | (go_at_call 26; refine (HQ26.out _ HB.out).mono ?_; rintro e w2 ⟨rfl, hb2⟩; have HX2 := Lib.hid (keep_blk hb2 HX.out); have HY2 := Lib.hid (keep_blk hb2 HY.out); have HB2 := Lib.hid (HB.out.trans (hb2.mono HB.out.size)); clear hb2 x0 x1 x2 x3 x4 x5 x6 x7 x8 x9 x10 x11 x12 y0 y1 y2 y3 y4 y5 y6 y7 y8 y9 y10 y11 y12; obtain ⟨x0, x1, x2, x3, x4, x5, x6, x7, x8, x9, x10, x11, x12⟩ := cells13 HX2.out; obtain ⟨y0, y1, y2, y3, y4, y5, y6, y7, y8, y9, y10, y11, y12⟩ := cells13 HY2.out)
          | (go_at_call 27; refine (HQ27.out _ HB2.out).mono ?_; rintro e w3 ⟨rfl, hb3⟩; have HX3 := Lib.hid (keep_blk hb3 HX2.out); have HY3 := Lib.hid (keep_blk hb3 HY2.out); have HB3 := Lib.hid (HB2.out.trans (hb3.mono HB2.out.size)); clear hb3 x0 x1 x2 x3 x4 x5 x6 x7 x8 x9 x10 x11 x12 y0 y1 y2 y3 y4 y5 y6 y7 y8 y9 y10 y11 y12; obtain ⟨x0, x1, x2, x3, x4, x5, x6, x7, x8, x9, x10, x11, x12⟩ := cells13 HX3.out; obtain ⟨y0, y1, y2, y3, y4, y5, y6, y7, y8, y9, y10, y11, y12⟩ := cells13 HY3.out))
        go_ret
        exact ⟨by simp only [b_kind, Bool.true_and, Bool.and_true, Bool.false_and, Bool.and_false]; rfl, HB3.out⟩
      have b_kind : (kind == kind') = true := by simpa using h_kind
      clear h_kind
      by_cases h_num : num = num'
      case neg =>
        have b_num : (num == num') = false := by simpa using h_num
        clear h_num
        go_enter Try.func15, Try.ntmps15
        go_wp2_with (first
          | (go_at_call 26; refine (HQ26.out _ HB.out).mono ?_; rintro e w2 ⟨rfl, hb2⟩; have HX2 := Lib.hid (keep_blk hb2 HX.out); have HY2 := Lib.hid (keep_blk hb2 HY.out); have HB2 := Lib.hid (HB.out.trans (hb2.mono HB.out.size)); clear hb2 x0 x1 x2 x3 x4 x5 x6 x7 x8 x9 x10 x11 x12 y0 y1 y2 y3 y4 y5 y6 y7 y8 y9 y10 y11 y12; obtain ⟨x0, x1, x2, x3, x4, x5, x6, x7, x8, x9, x10, x11, x12⟩ := cells13 HX2.out; obtain ⟨y0, y1, y2, y3, y4, y5, y6, y7, y8, y9, y10, y11, y12⟩ := cells13 HY2.out)
          | (go_at_call 27; refine (HQ27.out _ HB2.out).mono ?_; rintro e w3 ⟨rfl, hb3⟩; have HX3 := Lib.hid (keep_blk hb3 HX2.out); have HY3 := Lib.hid (keep_blk hb3 HY2.out); have HB3 := Lib.hid (HB2.out.trans (hb3.mono HB2.out.size)); clear hb3 x0 x1 x2 x3 x4 x5 x6 x7 x8 x9 x10 x11 x12 y0 y1 y2 y3 y4 y5 y6 y7 y8 y9 y10 y11 y12; obtain ⟨x0, x1, x2, x3, x4, x5, x6, x7, x8, x9, x10, x11, x12⟩ := cells13 HX3.out; obtain ⟨y0, y1, y2, y3, y4, y5, y6, y7, y8, y9, y10, y11, y12⟩ := cells13 HY3.out))
        go_ret
        exact ⟨by simp only [b_kind, b_num, Bool.true_and, Bool.and_true, Bool.false_and, Bool.and_false]; rfl, HB3.out⟩
      have b_num : (num == num') = true := by simpa using h_num
      clear h_num
      by_cases h_slot : slot = slot'
      case neg =>
        have b_slot : (slot == slot') = false := by simpa using h_slot
        clear h_slot
        go_enter Try.func15, Try.ntmps15
        go_wp2_with (first
          | (go_at_call 26; refine (HQ26.out _ HB.out).mono ?_; rintro e w2 ⟨rfl, hb2⟩; have HX2 := Lib.hid (keep_blk hb2 HX.out); have HY2 := Lib.hid (keep_blk hb2 HY.out); have HB2 := Lib.hid (HB.out.trans (hb2.mono HB.out.size)); clear hb2 x0 x1 x2 x3 x4 x5 x6 x7 x8 x9 x10 x11 x12 y0 y1 y2 y3 y4 y5 y6 y7 y8 y9 y10 y11 y12; obtain ⟨x0, x1, x2, x3, x4, x5, x6, x7, x8, x9, x10, x11, x12⟩ := cells13 HX2.out; obtain ⟨y0, y1, y2, y3, y4, y5, y6, y7, y8, y9, y10, y11, y12⟩ := cells13 HY2.out)
          | (go_at_call 27; refine (HQ27.out _ HB2.out).mono ?_; rintro e w3 ⟨rfl, hb3⟩; have HX3 := Lib.hid (keep_blk hb3 HX2.out); have HY3 := Lib.hid (keep_blk hb3 HY2.out); have HB3 := Lib.hid (HB2.out.trans (hb3.mono HB2.out.size)); clear hb3 x0 x1 x2 x3 x4 x5 x6 x7 x8 x9 x10 x11 x12 y0 y1 y2 y3 y4 y5 y6 y7 y8 y9 y10 y11 y12; obtain ⟨x0, x1, x2, x3, x4, x5, x6, x7, x8, x9, x10, x11, x12⟩ := cells13 HX3.out; obtain ⟨y0, y1, y2, y3, y4, y5, y6, y7, y8, y9, y10, y11, y12⟩ := cells13 HY3.out))
        go_ret
        exact ⟨by simp only [b_kind, b_num, b_slot, Bool.true_and, Bool.and_true, Bool.false_and, Bool.and_false]; rfl, HB3.out⟩
      have b_slot : (slot == slot') = true := by simpa using h_slot
      clear h_slot
      by_cases h_ends : ends = ends'
      case neg =>
        have b_ends : (ends == ends') = false := by simpa using h_ends
        clear h_ends
        go_enter Try.func15, Try.ntmps15
        go_wp2_with (first
          | (go_at_call 26; refine (HQ26.out _ HB.out).mono ?_; rintro e w2 ⟨rfl, hb2⟩; have HX2 := Lib.hid (keep_blk hb2 HX.out); have HY2 := Lib.hid (keep_blk hb2 HY.out); have HB2 := Lib.hid (HB.out.trans (hb2.mono HB.out.size)); clear hb2 x0 x1 x2 x3 x4 x5 x6 x7 x8 x9 x10 x11 x12 y0 y1 y2 y3 y4 y5 y6 y7 y8 y9 y10 y11 y12; obtain ⟨x0, x1, x2, x3, x4, x5, x6, x7, x8, x9, x10, x11, x12⟩ := cells13 HX2.out; obtain ⟨y0, y1, y2, y3, y4, y5, y6, y7, y8, y9, y10, y11, y12⟩ := cells13 HY2.out)
          | (go_at_call 27; refine (HQ27.out _ HB2.out).mono ?_; rintro e w3 ⟨rfl, hb3⟩; have HX3 := Lib.hid (keep_blk hb3 HX2.out); have HY3 := Lib.hid (keep_blk hb3 HY2.out); have HB3 := Lib.hid (HB2.out.trans (hb3.mono HB2.out.size)); clear hb3 x0 x1 x2 x3 x4 x5 x6 x7 x8 x9 x10 x11 x12 y0 y1 y2 y3 y4 y5 y6 y7 y8 y9 y10 y11 y12; obtain ⟨x0, x1, x2, x3, x4, x5, x6, x7, x8, x9, x10, x11, x12⟩ := cells13 HX3.out; obtain ⟨y0, y1, y2, y3, y4, y5, y6, y7, y8, y9, y10, y11, y12⟩ := cells13 HY3.out))
        go_ret
        exact ⟨by simp only [b_kind, b_num, b_slot, b_ends, Bool.true_and, Bool.and_true, Bool.false_and, Bool.and_false]; rfl, HB3.out⟩
      have b_ends : (ends == ends') = true := by simpa using h_ends
      clear h_ends
      by_cases h_key : key.toList = key'.toList
      case neg =>
        have b_key : (key.toList == key'.toList) = false := by simpa using h_key
        clear h_key
        go_enter Try.func15, Try.ntmps15
        go_wp2_with (first
          | (go_at_call 26; refine (HQ26.out _ HB.out).mono ?_; rintro e w2 ⟨rfl, hb2⟩; have HX2 := Lib.hid (keep_blk hb2 HX.out); have HY2 := Lib.hid (keep_blk hb2 HY.out); have HB2 := Lib.hid (HB.out.trans (hb2.mono HB.out.size)); clear hb2 x0 x1 x2 x3 x4 x5 x6 x7 x8 x9 x10 x11 x12 y0 y1 y2 y3 y4 y5 y6 y7 y8 y9 y10 y11 y12; obtain ⟨x0, x1, x2, x3, x4, x5, x6, x7, x8, x9, x10, x11, x12⟩ := cells13 HX2.out; obtain ⟨y0, y1, y2, y3, y4, y5, y6, y7, y8, y9, y10, y11, y12⟩ := cells13 HY2.out)
          | (go_at_call 27; refine (HQ27.out _ HB2.out).mono ?_; rintro e w3 ⟨rfl, hb3⟩; have HX3 := Lib.hid (keep_blk hb3 HX2.out); have HY3 := Lib.hid (keep_blk hb3 HY2.out); have HB3 := Lib.hid (HB2.out.trans (hb3.mono HB2.out.size)); clear hb3 x0 x1 x2 x3 x4 x5 x6 x7 x8 x9 x10 x11 x12 y0 y1 y2 y3 y4 y5 y6 y7 y8 y9 y10 y11 y12; obtain ⟨x0, x1, x2, x3, x4, x5, x6, x7, x8, x9, x10, x11, x12⟩ := cells13 HX3.out; obtain ⟨y0, y1, y2, y3, y4, y5, y6, y7, y8, y9, y10, y11, y12⟩ := cells13 HY3.out))
        go_ret
        exact ⟨by simp only [b_kind, b_num, b_slot, b_ends, b_key, Bool.true_and, Bool.and_true, Bool.false_and, Bool.and_false]; rfl, HB3.out⟩
      have b_key : (key.toList == key'.toList) = true := by simpa using h_key
      clear h_key
      by_cases h_text : text.toList = text'.toList
      case neg =>
        have b_text : (text.toList == text'.toList) = false := by simpa using h_text
        clear h_text
        go_enter Try.func15, Try.ntmps15
        go_wp2_with (first
          | (go_at_call 26; refine (HQ26.out _ HB.out).mono ?_; rintro e w2 ⟨rfl, hb2⟩; have HX2 := Lib.hid (keep_blk hb2 HX.out); have HY2 := Lib.hid (keep_blk hb2 HY.out); have HB2 := Lib.hid (HB.out.trans (hb2.mono HB.out.size)); clear hb2 x0 x1 x2 x3 x4 x5 x6 x7 x8 x9 x10 x11 x12 y0 y1 y2 y3 y4 y5 y6 y7 y8 y9 y10 y11 y12; obtain ⟨x0, x1, x2, x3, x4, x5, x6, x7, x8, x9, x10, x11, x12⟩ := cells13 HX2.out; obtain ⟨y0, y1, y2, y3, y4, y5, y6, y7, y8, y9, y10, y11, y12⟩ := cells13 HY2.out)
          | (go_at_call 27; refine (HQ27.out _ HB2.out).mono ?_; rintro e w3 ⟨rfl, hb3⟩; have HX3 := Lib.hid (keep_blk hb3 HX2.out); have HY3 := Lib.hid (keep_blk hb3 HY2.out); have HB3 := Lib.hid (HB2.out.trans (hb3.mono HB2.out.size)); clear hb3 x0 x1 x2 x3 x4 x5 x6 x7 x8 x9 x10 x11 x12 y0 y1 y2 y3 y4 y5 y6 y7 y8 y9 y10 y11 y12; obtain ⟨x0, x1, x2, x3, x4, x5, x6, x7, x8, x9, x10, x11, x12⟩ := cells13 HX3.out; obtain ⟨y0, y1, y2, y3, y4, y5, y6, y7, y8, y9, y10, y11, y12⟩ := cells13 HY3.out))
        go_ret
        exact ⟨by simp only [b_kind, b_num, b_slot, b_ends, b_key, b_text, Bool.true_and, Bool.and_true, Bool.false_and, Bool.and_false]; rfl, HB3.out⟩
      have b_text : (text.toList == text'.toList) = true := by simpa using h_text
      clear h_text
      by_cases h_good : good = good'
      case neg =>
        have b_good : (good == good') = false := by simpa using h_good
        have c_good : (good != good') = true := by simpa using h_good
        clear h_good
        go_enter Try.func15, Try.ntmps15
        go_wp2_with (first
          | (go_at_call 26; refine (HQ26.out _ HB.out).mono ?_; rintro e w2 ⟨rfl, hb2⟩; have HX2 := Lib.hid (keep_blk hb2 HX.out); have HY2 := Lib.hid (keep_blk hb2 HY.out); have HB2 := Lib.hid (HB.out.trans (hb2.mono HB.out.size)); clear hb2 x0 x1 x2 x3 x4 x5 x6 x7 x8 x9 x10 x11 x12 y0 y1 y2 y3 y4 y5 y6 y7 y8 y9 y10 y11 y12; obtain ⟨x0, x1, x2, x3, x4, x5, x6, x7, x8, x9, x10, x11, x12⟩ := cells13 HX2.out; obtain ⟨y0, y1, y2, y3, y4, y5, y6, y7, y8, y9, y10, y11, y12⟩ := cells13 HY2.out)
          | (go_at_call 27; refine (HQ27.out _ HB2.out).mono ?_; rintro e w3 ⟨rfl, hb3⟩; have HX3 := Lib.hid (keep_blk hb3 HX2.out); have HY3 := Lib.hid (keep_blk hb3 HY2.out); have HB3 := Lib.hid (HB2.out.trans (hb3.mono HB2.out.size)); clear hb3 x0 x1 x2 x3 x4 x5 x6 x7 x8 x9 x10 x11 x12 y0 y1 y2 y3 y4 y5 y6 y7 y8 y9 y10 y11 y12; obtain ⟨x0, x1, x2, x3, x4, x5, x6, x7, x8, x9, x10, x11, x12⟩ := cells13 HX3.out; obtain ⟨y0, y1, y2, y3, y4, y5, y6, y7, y8, y9, y10, y11, y12⟩ := cells13 HY3.out))
        go_ret
        exact ⟨by simp only [b_kind, b_num, b_slot, b_ends, b_key, b_text, b_good, Bool.true_and, Bool.and_true, Bool.false_and, Bool.and_false]; rfl, HB3.out⟩
      have b_good : (good == good') = true := by simpa using h_good
      clear h_good
      by_cases h_asking : asking = asking'
      case neg =>
        have b_asking : (asking == asking') = false := by simpa using h_asking
        clear h_asking
        go_enter Try.func15, Try.ntmps15
        go_wp2_with (first
          | (go_at_call 26; refine (HQ26.out _ HB.out).mono ?_; rintro e w2 ⟨rfl, hb2⟩; have HX2 := Lib.hid (keep_blk hb2 HX.out); have HY2 := Lib.hid (keep_blk hb2 HY.out); have HB2 := Lib.hid (HB.out.trans (hb2.mono HB.out.size)); clear hb2 x0 x1 x2 x3 x4 x5 x6 x7 x8 x9 x10 x11 x12 y0 y1 y2 y3 y4 y5 y6 y7 y8 y9 y10 y11 y12; obtain ⟨x0, x1, x2, x3, x4, x5, x6, x7, x8, x9, x10, x11, x12⟩ := cells13 HX2.out; obtain ⟨y0, y1, y2, y3, y4, y5, y6, y7, y8, y9, y10, y11, y12⟩ := cells13 HY2.out)
          | (go_at_call 27; refine (HQ27.out _ HB2.out).mono ?_; rintro e w3 ⟨rfl, hb3⟩; have HX3 := Lib.hid (keep_blk hb3 HX2.out); have HY3 := Lib.hid (keep_blk hb3 HY2.out); have HB3 := Lib.hid (HB2.out.trans (hb3.mono HB2.out.size)); clear hb3 x0 x1 x2 x3 x4 x5 x6 x7 x8 x9 x10 x11 x12 y0 y1 y2 y3 y4 y5 y6 y7 y8 y9 y10 y11 y12; obtain ⟨x0, x1, x2, x3, x4, x5, x6, x7, x8, x9, x10, x11, x12⟩ := cells13 HX3.out; obtain ⟨y0, y1, y2, y3, y4, y5, y6, y7, y8, y9, y10, y11, y12⟩ := cells13 HY3.out))
        go_ret
        exact ⟨by simp only [b_kind, b_num, b_slot, b_ends, b_key, b_text, b_good, b_asking, Bool.true_and, Bool.and_true, Bool.false_and, Bool.and_false]; rfl, HB3.out⟩
      have b_asking : (asking == asking') = true := by simpa using h_asking
      clear h_asking
      go_enter Try.func15, Try.ntmps15
      go_wp2_with (first
        | (go_at_call 26; refine (HQ26.out _ HB.out).mono ?_; rintro e w2 ⟨rfl, hb2⟩; have HX2 := Lib.hid (keep_blk hb2 HX.out); have HY2 := Lib.hid (keep_blk hb2 HY.out); have HB2 := Lib.hid (HB.out.trans (hb2.mono HB.out.size)); clear hb2 x0 x1 x2 x3 x4 x5 x6 x7 x8 x9 x10 x11 x12 y0 y1 y2 y3 y4 y5 y6 y7 y8 y9 y10 y11 y12; obtain ⟨x0, x1, x2, x3, x4, x5, x6, x7, x8, x9, x10, x11, x12⟩ := cells13 HX2.out; obtain ⟨y0, y1, y2, y3, y4, y5, y6, y7, y8, y9, y10, y11, y12⟩ := cells13 HY2.out)
        | (go_at_call 27; refine (HQ27.out _ HB2.out).mono ?_; rintro e w3 ⟨rfl, hb3⟩; have HX3 := Lib.hid (keep_blk hb3 HX2.out); have HY3 := Lib.hid (keep_blk hb3 HY2.out); have HB3 := Lib.hid (HB2.out.trans (hb3.mono HB2.out.size)); clear hb3 x0 x1 x2 x3 x4 x5 x6 x7 x8 x9 x10 x11 x12 y0 y1 y2 y3 y4 y5 y6 y7 y8 y9 y10 y11 y12; obtain ⟨x0, x1, x2, x3, x4, x5, x6, x7, x8, x9, x10, x11, x12⟩ := cells13 HX3.out; obtain ⟨y0, y1, y2, y3, y4, y5, y6, y7, y8, y9, y10, y11, y12⟩ := cells13 HY3.out))
      go_ret
      exact ⟨by simp only [b_kind, b_num, b_slot, b_ends, b_key, b_text, b_good, b_asking, Bool.true_and, Bool.and_true]; rfl, HB3.out⟩

/-- ref18.Same -/
theorem lsame_is (x y : Lt) (o p : Wh) (w : World) (hx : LtO w x o) (hy : LtO w y p) (hf : Fit x.rep) (hn : x.args.length ≤ 1125899906842624) :
    Calls Try.prog 15 #[ltV x o, ltV y p] w fun e w' => e = .returned (.bool (sameL x y)) ∧ Below w.heap.size w w' :=
  lsame_raw _ _ _ _ _ _ _ _ _ _ _ _ _ _ _ _ _ _ _ _ _ _ _ _ _ _ _ _ _ _ _ _ _ _ _ _ w
    (fun wx hb => rsame_all x.rep.sz x.rep y.rep o.r p.r o.rc p.rc wx (Nat.le_refl _) (hx.2.below hb) (hy.2.below hb) hf)
    (fun wx hb => same6_is x.args y.args o.a p.a o.ac p.ac wx (rd_keeps hx.1 (keeps_below hb)) (rd_keeps hy.1 (keeps_below hb)) hn)
end Go.Proofs.Ytmflalnajinejaa.T
