import Derived.Test.YtgakeclocbfnpaaDoorProg
import Derived.Test.YtgakeclocbfnpaaDoorMem
import Derived.Test.YtgakeclocbfnpaaDoorTa
import Derived.WalkKit
import Derived.Outline
import Derived.WalkLawsBesides
import Derived.Deep.QuietTactic
import Derived.BigQuiet
import Derived.Lib.Hide
import Derived.Handy
import Derived.Deep.RegionHeld3
import Derived.Deep.DrawnRows
import Derived.KernelRfl
import Derived.Great.Walk
namespace Go.Proofs.YtgakeclocbfnpaaDoor.T
open Go Go.RowKit Mem
set_option maxRecDepth 100000
set_option maxHeartbeats 8000000
set_option linter.unusedVariables false
set_option linter.unusedSimpArgs false

def upc (c : UInt8) : UInt8 := if 97 ≤ (c.toNat : Int) ∧ (c.toNat : Int) ≤ 122 then c - 32 else c
def up (s : ByteArray) : List UInt8 := s.data.toList.map upc
theorem upc_yes {c : UInt8} (h : 97 ≤ (c.toNat : Int)) (h' : (c.toNat : Int) ≤ 122) : ((upc c).toNat : Int) = (c.toNat : Int) - 32 := by
  unfold upc; rw [if_pos ⟨h, h'⟩, UInt8.toNat_sub_of_le _ _ (by rw [UInt8.le_iff_toNat_le]; show 32 ≤ _; omega)]
  show ((c.toNat - 32 : Nat) : Int) = _
  omega
theorem upc_no {c : UInt8} (h : ¬ (97 ≤ (c.toNat : Int) ∧ (c.toNat : Int) ≤ 122)) : ((upc c).toNat : Int) = (c.toNat : Int) := by
  unfold upc; rw [if_neg h]
theorem upc_inj {a b : UInt8} (h : ((upc a).toNat : Int) = (upc b).toNat) : upc a = upc b := by
  apply UInt8.toNat_inj.1; omega
theorem up_len (s : ByteArray) : (up s).length = s.size := by simp [up]
theorem up_get (s : ByteArray) (j : Nat) (h : j < s.size) : (up s)[j]'(by rw [up_len]; exact h) = upc s[j] := by
  simp [up]; rfl
theorem up_eq {a b : ByteArray} (hl : a.size = b.size) (h : ∀ j (h1 : j < a.size) (h2 : j < b.size), upc a[j] = upc b[j]) : up a = up b := by
  apply List.ext_getElem
  · rw [up_len, up_len, hl]
  · intro j h1 h2
    rw [up_len] at h1 h2
    rw [up_get a j h1, up_get b j h2]; exact h j h1 h2
theorem up_ne_len {a b : ByteArray} (hl : a.size ≠ b.size) : up a ≠ up b := fun e => hl (by rw [← up_len a, ← up_len b, e])
theorem up_ne {a b : ByteArray} {j : Nat} (h1 : j < a.size) (h2 : j < b.size) (h : upc a[j] ≠ upc b[j]) : up a ≠ up b := fun e => h (by
  rw [← up_get a j h1, ← up_get b j h2]; simp [e])

/-- ref12.Alike -/
theorem alike_is (a b : ByteArray) (w : World) (ha : a.size ≤ maxLen) (hb : b.size ≤ maxLen) :
    Calls Tryd.prog 23 #[.string a, .string b] w fun e w' => e = .returned (.bool (decide (up a = up b))) ∧ w = w' := by
  unfold maxLen at ha hb
  by_cases hl : a.size = b.size
  · have hne : ((a.size : Int) != (b.size : Int)) = false := by simp [hl]
    have HL := Lib.hid hl
    clear hl
    go_enter Tryd.func23, Tryd.ntmps23
    go_wp2_with fail
    go_loop [5] (fun i => ∃ k : Nat, k ≤ a.size ∧ i = .int .i64 k ∧ ∀ j (h1 : j < a.size) (h2 : j < b.size), j < k → upc a[j] = upc b[j]) (fun i => a.size - (intOf i).toNat)
    case atStart => exact ⟨0, Nat.zero_le _, rfl, fun j _ _ h => by omega⟩
    case round =>
      obtain ⟨k, hk, rfl, hsame⟩ := hrel
      have HS := Lib.hid hsame
      clear hsame
      by_cases hlt : k < a.size
      · have hlt2 : k < b.size := by rw [← HL.out]; exact hlt
        have px := a[k].toNat_lt
        have py := b[k].toNat_lt
        have HX : Hid (((upc a[k]).toNat : Int) = if 97 ≤ (a[k].toNat : Int) ∧ (a[k].toNat : Int) ≤ 122 then (a[k].toNat : Int) - 32 else a[k].toNat) := Lib.hid (by split; · exact upc_yes (by omega) (by omega)
                                                                                                                                                                     · exact upc_no (by omega))
        have HY : Hid (((upc b[k]).toNat : Int) = if 97 ≤ (b[k].toNat : Int) ∧ (b[k].toNat : Int) ≤ 122 then (b[k].toNat : Int) - 32 else b[k].toNat) := Lib.hid (by split; · exact upc_yes (by omega) (by omega)
                                                                                                                                                                     · exact upc_no (by omega))
        go_wp2
        all_goals
          have hx := HX.out
          have hy := HY.out
        all_goals first
          | (go_ret
             refine ⟨ret_bool (Eq.symm (decide_eq_false (up_ne hlt hlt2 fun e => ?_))), rfl⟩
             have e' : ((upc a[k]).toNat : Int) = (upc b[k]).toNat := by rw [e]
             (first | ((have ht : (((a[k].toNat : Int) - 32) != ((b[k].toNat : Int) - 32)) = true := by assumption); (simp at ht); (split at hx <;> split at hy <;> omega)) | ((have ht : (((a[k].toNat : Int) - 32) != ((b[k].toNat : Int))) = true := by assumption); (simp at ht); (split at hx <;> split at hy <;> omega)) | ((have ht : (((a[k].toNat : Int)) != ((b[k].toNat : Int) - 32)) = true := by assumption); (simp at ht); (split at hx <;> split at hy <;> omega)) | ((have ht : (((a[k].toNat : Int)) != ((b[k].toNat : Int))) = true := by assumption); (simp at ht); (split at hx <;> split at hy <;> omega)) | ((have ht : (((a[k].toNat : Int) - 32) != ((b[k].toNat : Int) - 32)) = false := by assumption); (simp at ht); (split at hx <;> split at hy <;> omega)) | ((have ht : (((a[k].toNat : Int) - 32) != ((b[k].toNat : Int))) = false := by assumption); (simp at ht); (split at hx <;> split at hy <;> omega)) | ((have ht : (((a[k].toNat : Int)) != ((b[k].toNat : Int) - 32)) = false := by assumption); (simp at ht); (split at hx <;> split at hy <;> omega)) | ((have ht : (((a[k].toNat : Int)) != ((b[k].toNat : Int))) = false := by assumption); (simp at ht); (split at hx <;> split at hy <;> omega))))
          | (have hkk : upc a[k] = upc b[k] := by
               apply upc_inj; (first | ((have ht : (((a[k].toNat : Int) - 32) != ((b[k].toNat : Int) - 32)) = true := by assumption); (simp at ht); (split at hx <;> split at hy <;> omega)) | ((have ht : (((a[k].toNat : Int) - 32) != ((b[k].toNat : Int))) = true := by assumption); (simp at ht); (split at hx <;> split at hy <;> omega)) | ((have ht : (((a[k].toNat : Int)) != ((b[k].toNat : Int) - 32)) = true := by assumption); (simp at ht); (split at hx <;> split at hy <;> omega)) | ((have ht : (((a[k].toNat : Int)) != ((b[k].toNat : Int))) = true := by assumption); (simp at ht); (split at hx <;> split at hy <;> omega)) | ((have ht : (((a[k].toNat : Int) - 32) != ((b[k].toNat : Int) - 32)) = false := by assumption); (simp at ht); (split at hx <;> split at hy <;> omega)) | ((have ht : (((a[k].toNat : Int) - 32) != ((b[k].toNat : Int))) = false := by assumption); (simp at ht); (split at hx <;> split at hy <;> omega)) | ((have ht : (((a[k].toNat : Int)) != ((b[k].toNat : Int) - 32)) = false := by assumption); (simp at ht); (split at hx <;> split at hy <;> omega)) | ((have ht : (((a[k].toNat : Int)) != ((b[k].toNat : Int))) = false := by assumption); (simp at ht); (split at hx <;> split at hy <;> omega)))
             refine ⟨⟨k + 1, by omega, by go_num, fun j h1 h2 hj => ?_⟩, by simp [intOf]; omega⟩
             rcases Nat.lt_succ_iff_lt_or_eq.1 hj with h | h
             · exact HS.out j h1 h2 h
             · subst h; exact hkk)
      · have e : up a = up b := up_eq HL.out fun j h1 h2 => HS.out j h1 h2 (by omega)
        go_wp2
        go_ret
        exact ⟨by simp [e], rfl⟩
  · have hne : ((a.size : Int) != (b.size : Int)) = true := by simp; omega
    go_enter Tryd.func23, Tryd.ntmps23
    go_wp2
    go_ret
    exact ⟨ret_bool (Eq.symm (decide_eq_false (up_ne_len hl))), rfl⟩
end Go.Proofs.YtgakeclocbfnpaaDoor.T
