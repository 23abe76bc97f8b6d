import Derived.Deep.DeepCutAuto
import Derived.Laws.OwnMore
import Derived.OwnWalk
import Derived.Lib.AppendStr
import Derived.Lib.SliceRun
import Derived.Lib.SmallJoins
import Derived.IntWalk
import Derived.WalkMore
import Derived.Lib.OthersKept
import Derived.Deep.LoopGhost
import Derived.Deep.RegionLaw
import Derived.Deep.AppendLies
import Derived.Test.YtfdcacjfngjmdaaDoorProg
import Derived.Test.YtfdcacjfngjmdaaDoorMem
import Derived.Test.YtfdcacjfngjmdaaDoorBlk
import Derived.Test.YtfdcacjfngjmdaaDoorAp
import Derived.Test.YtfdcacjfngjmdaaDoorDt
import Derived.Test.YtfdcacjfngjmdaaDoorShelf
import Derived.Sort.OwnSorted
import Derived.WalkKit
import Derived.Outline
import Derived.WalkLawsBesides
import Derived.Deep.QuietTactic
import Derived.BigQuiet
import Derived.Lib.Hide
import Derived.Handy
import Derived.Deep.RegionHeld3
import Derived.Deep.DrawnRows
import Derived.KernelRfl
import Derived.Great.Walk
import Derived.Test.YtfdcacjfngjmdaaDoorOwn
namespace Go.Proofs.YtfdcacjfngjmdaaDoor.T
open Go Go.RowKit Go.Sort Mem Own
set_option maxRecDepth 100000
set_option maxHeartbeats 1000000
set_option linter.unusedVariables false
set_option linter.unusedSimpArgs false

def mk (x : List UInt8) : ByteArray := ⟨x.toArray⟩
theorem mk_toList (x : List UInt8) : (mk x).toList = x := by rw [ByteArray.toList_eq]; rfl
theorem mk_data (x : ByteArray) : mk x.toList = x := ba_inj (mk_toList _)
theorem vs_mk (ss : List (List UInt8)) : vs (ss.map mk) = ss.map encStr := by simp [vs, mk, encStr, Function.comp_def]
theorem map_mk (l : List ByteArray) : (l.map ByteArray.toList).map mk = l := by
  rw [List.map_map]; conv => rhs; rw [← List.map_id l]
  exact List.map_congr_left fun x _ => mk_data x
theorem vs_enc (l : List ByteArray) : vs l = (l.map ByteArray.toList).map encStr := by rw [← vs_mk, map_mk]
/-- Texts in rising order. -/
def srt (l : List ByteArray) : List ByteArray := ((l.map ByteArray.toList).mergeSort fun x y => decide (x ≤ y)).map mk
theorem srt_perm (l : List ByteArray) : (srt l).Perm l := by
  have h := (List.mergeSort_perm (l.map ByteArray.toList) fun x y => decide (x ≤ y)).map mk
  rw [map_mk] at h; exact h
theorem srt_len (l : List ByteArray) : (srt l).length = l.length := (srt_perm l).length_eq
theorem srt_up (l : List ByteArray) : ((srt l).map ByteArray.toList).Pairwise (fun x y => x ≤ y) := by
  have : (srt l).map ByteArray.toList = (l.map ByteArray.toList).mergeSort fun x y => decide (x ≤ y) := by
    unfold srt
    rw [List.map_map]; conv => rhs; rw [← List.map_id ((l.map ByteArray.toList).mergeSort _)]
    exact List.map_congr_left fun x _ => mk_toList x
  rw [this]
  have := List.pairwise_mergeSort (le := fun x y : List UInt8 => decide (x ≤ y)) (fun a b c h1 h2 => by simp at *; exact List.le_trans h1 h2) (fun a b => by simp; exact List.le_total a b) (l.map ByteArray.toList)
  exact this.imp fun h => by simpa using h
/-- A rising list is known by what is in it. -/
theorem up_eq {a b : List ByteArray} (hp : a.Perm b) (ha : (a.map ByteArray.toList).Pairwise (fun x y => x ≤ y)) (hb : (b.map ByteArray.toList).Pairwise (fun x y => x ≤ y)) : a = b := by
  have h := List.Perm.eq_of_pairwise (le := fun x y : List UInt8 => x ≤ y) (fun x y _ _ h1 h2 => List.le_antisymm h1 h2) ha hb (hp.map ByteArray.toList)
  rw [← map_mk a, ← map_mk b, h]
theorem srt_eq {a b : List ByteArray} (hp : a.Perm b) : srt a = srt b := up_eq ((srt_perm a).trans (hp.trans (srt_perm b).symm)) (srt_up a) (srt_up b)
theorem own_block {w : World} {B g n cap : Nat} {l : List ByteArray} (h : w.ownsRow B 9 1 (.slice (some ⟨g, 0, none⟩) n cap) n (vs l)) : ∃ cur, B ≤ g ∧ w.heap[g]? = some (.cells cur 9 (0, 0)) ∧ n ≤ cap ∧ cap ≤ maxLen ∧ cur.size = cap * 1 ∧ cur.toList.take n = vs l := by
  rcases h.2 with ⟨e, _⟩ | ⟨g', cap', cur, e, h1, h2, h3, h4, h5, h6⟩
  · cases e
  · injection e with e1 e2 e3
    injection e1 with e1; injection e1 with e1
    subst e1; subst e3
    exact ⟨cur, h1, h2, h3, h4, h5, by simpa using h6⟩
/-- slices.Sort of a row of one's own. -/
theorem sort_is (B n : Nat) (v : Value) (l : List ByteArray) (w : World) (h : w.ownsRow B 9 1 v n (vs l)) (hn : n < 4611686018427387904) :
    Calls Tryd.prog 37 #[v] w fun e w' => e = .returned (.tuple #[]) ∧ w'.ownsRow B 9 1 v n (vs (srt l)) ∧ Below B w w' := by
  have hl := own_len h
  subst hl
  rcases h.2 with ⟨rfl, h0⟩ | ⟨g, cap, cur, rfl, _⟩
  · have : l = [] := List.eq_nil_of_length_eq_zero h0
    subst this
    refine (Tryd.slices_Sort_string_none none 0 w).mono ?_
    rintro e w' ⟨rfl, rfl⟩
    have e : srt [] = [] := List.eq_nil_of_length_eq_zero (srt_len [])
    rw [e]
    exact ⟨rfl, World.ownsRow_nil _ _ _ _, Below.refl _ _⟩
  obtain ⟨cur, hB, hb, hnc, hcm, hsz, htk⟩ := own_block h
  have hlen : (l.map ByteArray.toList).length = l.length := by simp
  have hH : Holds encStr w g 0 (l.map ByteArray.toList).toArray := holds_of_block hb (by rw [hlen, htk, vs_enc])
  have hc := Tryd.slices_Sort_string g 0 cap (l.map ByteArray.toList) w hH (Array.getElem?_eq_some_iff.1 hb).1 (by rw [hlen]; exact hn)
  rw [hlen] at hc
  refine hc.mono ?_
  rintro e w' ⟨rfl, n, os, rfl⟩
  have htl : ((l.map ByteArray.toList).mergeSort fun x y => decide (x ≤ y)).length = (l.map ByteArray.toList).length := by simp
  refine ⟨rfl, ?_, ?_⟩
  · have := ownsRow_sorted (base := B) (os := os) (n := n) htl hB hb (by rw [hlen]; exact hnc) hcm hsz
    rw [hlen] at this
    unfold srt
    rw [vs_mk]
    exact this
  · exact (Below.refl B w).grown (grownBy_sorted _) (by have := (Array.getElem?_eq_some_iff.1 hb).1; omega) (fun k hk => by injection hk with hk; omega)
end Go.Proofs.YtfdcacjfngjmdaaDoor.T
