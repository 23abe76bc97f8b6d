import Derived.Deep.DeepCutAuto
import Derived.Laws.OwnMore
import Derived.OwnWalk
import Derived.Lib.AppendStr
import Derived.Lib.SliceRun
import Derived.Lib.SmallJoins
import Derived.IntWalk
import Derived.WalkMore
import Derived.Lib.OthersKept
import Derived.Deep.LoopGhost
import Derived.Deep.RegionLaw
import Derived.Deep.AppendLies
import Derived.Test.YtfdcacjfngjmdaaDoorProg
import Derived.Test.YtfdcacjfngjmdaaDoorMem
import Derived.Test.YtfdcacjfngjmdaaDoorBlk
import Derived.Test.YtfdcacjfngjmdaaDoorAp
import Derived.Test.YtfdcacjfngjmdaaDoorDd
import Derived.WalkKit
import Derived.Outline
import Derived.WalkLawsBesides
import Derived.Deep.QuietTactic
import Derived.BigQuiet
import Derived.Lib.Hide
import Derived.Handy
import Derived.Deep.RegionHeld3
import Derived.Deep.DrawnRows
import Derived.KernelRfl
import Derived.Great.Walk
import Derived.Test.YtfdcacjfngjmdaaDoorOwn
namespace Go.Proofs.YtfdcacjfngjmdaaDoor.T
open Go Go.RowKit Go.Sort Mem Own
set_option maxRecDepth 100000
set_option maxHeartbeats 1000000
set_option linter.unusedVariables false
set_option linter.unusedSimpArgs false

/-- What a name has. -/
def Dm.get (m : Dm) (t : ByteArray) : Option Value := (m.all.find? fun x => x.1.toList == t.toList).map (·.2)
theorem ix_pos {l : List It} {t : ByteArray} {i : Int} (h : i = ixI l t) (h0 : 0 ≤ i) : ∃ (j : Nat) (hj : j < l.length), i = (j : Int) ∧ l[j].1.toList = t.toList := by
  unfold ixI at h
  cases e : ixN l t with
  | none => rw [e] at h; dsimp only at h; omega
  | some j =>
    rw [e] at h
    unfold ixN at e
    rw [List.findIdx?_eq_some_iff_getElem] at e
    obtain ⟨hj, h1, -⟩ := e
    exact ⟨j, hj, h, by simpa using h1⟩
theorem ix_neg {l : List It} {t : ByteArray} (h0 : ixI l t < 0) : ∀ x ∈ l, x.1.toList ≠ t.toList := by
  unfold ixI at h0
  cases e : ixN l t with
  | some j => rw [e] at h0; dsimp only at h0; omega
  | none =>
    unfold ixN at e
    rw [List.findIdx?_eq_none_iff] at e
    intro x hx hxt
    have := e x hx
    simp [hxt] at this
theorem find_of {l : List It} (hn : (l.map fun x => x.1.toList).Nodup) {x : It} (hx : x ∈ l) {t : ByteArray} (ht : x.1.toList = t.toList) : (l.find? fun y => y.1.toList == t.toList) = some x := by
  induction l with
  | nil => simp at hx
  | cons a l ih =>
    rw [List.map_cons, List.nodup_cons] at hn
    by_cases ha : a.1.toList = t.toList
    · rw [List.find?_cons_of_pos (by simpa using ha)]
      rcases List.mem_cons.1 hx with rfl | hx
      · rfl
      · exact absurd (List.mem_map.2 ⟨x, hx, by rw [ht, ha]⟩) hn.1
    · rw [List.find?_cons_of_neg (by simpa using ha)]
      rcases List.mem_cons.1 hx with rfl | hx
      · exact absurd ht ha
      · exact ih hn.2 hx
theorem Inv.get_mem {K : Nat} {m : Dm} (h : Inv K m) {x : It} (hx : x ∈ m.all) {t : ByteArray} (ht : x.1.toList = t.toList) : m.get t = some x.2 := by
  unfold Dm.get
  rw [find_of h.names hx ht]; rfl
theorem get_none {m : Dm} {t : ByteArray} (h : ∀ x ∈ m.all, x.1.toList ≠ t.toList) : m.get t = none := by
  unfold Dm.get
  rw [List.find?_eq_none.2 (fun x hx => by simpa using h x hx)]; rfl
theorem rm_at {l : List (List It)} (t : ByteArray) (hl : 0 < l.length) : l[hsh t % l.length]? = some (rm l t) := by
  unfold rm
  have hk : hsh t % l.length < l.length := Nat.mod_lt _ hl
  rw [List.getD_eq_getElem?_getD, List.getElem?_eq_getElem hk]; rfl
theorem in_room {l : List (List It)} (tidy : ∀ k r, l[k]? = some r → ∀ x ∈ r, hsh x.1 % l.length = k) {x : It} (hx : x ∈ l.flatten) {t : ByteArray} (ht : x.1.toList = t.toList) : x ∈ rm l t := by
  obtain ⟨r, hr, hxr⟩ := List.mem_flatten.1 hx
  obtain ⟨k, hk, rfl⟩ := List.getElem_of_mem hr
  have h1 := tidy k l[k] (List.getElem?_eq_getElem hk) x hxr
  have h2 := ba_inj ht
  rw [h2] at h1
  have := rm_at (l := l) t (by omega)
  rw [h1, List.getElem?_eq_getElem hk] at this
  injection this with this
  rw [← this]; exact hxr
/-- find found it not: it is not there. -/
theorem found_no {K : Nat} {m : Dm} (h : Inv K m) {t : ByteArray} {gn go b k : Nat} {i : Int} (hf : Found m t gn go b k i) (hi : i < 0) : ∀ x ∈ m.all, x.1.toList ≠ t.toList := by
  intro x hx ht
  unfold Dm.all at hx
  rcases hf with ⟨-, -, rfl, h0⟩ | ⟨-, -, rfl, -, h1⟩
  · rcases List.mem_append.1 hx with hx | hx
    · exact ix_neg hi x (in_room h.tidyN hx ht) ht
    · have ho : m.old = [] := List.eq_nil_of_length_eq_zero (by omega)
      rw [ho] at hx; simp at hx
  · rcases List.mem_append.1 hx with hx | hx
    · exact ix_neg h1 x (in_room h.tidyN hx ht) ht
    · exact ix_neg hi x (in_room h.tidyO hx ht) ht
/-- find found it: the value's cell. -/
theorem found_yes {w : World} {B D TR TI g gn go K : Nat} {ow : Ow} {m : Dm} {nv ov : List Value} {t : ByteArray} {b k : Nat} {i : Int} (h : DR w B D TR TI g ow m gn go nv ov) (hv : Inv K m) (hf : Found m t gn go b k i) (hi : 0 ≤ i) :
    ∃ bb o L c j v, i = ((j : Nat) : Int) ∧ w.cell? ⟨b, k, none⟩ = some (.slice (some ⟨bb, o, none⟩) L c) ∧ j < L ∧ w.cell? ⟨bb, o + j * 2 + 1, none⟩ = some v ∧ m.get t = some v ∧ v.oneCell' = true := by
  have hn4 := hv.n4
  rcases hf with ⟨rfl, rfl, he, -⟩ | ⟨rfl, rfl, he, hol, -⟩
  · obtain ⟨j, hj, rfl, ht⟩ := ix_pos he hi
    obtain ⟨A, c, q, hr⟩ := h.now.at t (by omega)
    obtain ⟨bb, o, rfl⟩ := hr.addr (by omega)
    have hm : (rm m.now t)[j] ∈ m.all := List.mem_append_left _ (rm_mem _ (List.getElem_mem hj))
    exact ⟨bb, o, _, c, j, (rm m.now t)[j].2, rfl, q, hj, (hr.cell hj).2, hv.get_mem hm ht, (hv.one _ hm).1⟩
  · obtain ⟨j, hj, rfl, ht⟩ := ix_pos he hi
    obtain ⟨A, c, q, hr⟩ := (h.old (fun e => by rw [e] at hol; simp at hol)).1.at t hol
    obtain ⟨bb, o, rfl⟩ := hr.addr (by omega)
    have hm : (rm m.old t)[j] ∈ m.all := List.mem_append_right _ (rm_mem _ (List.getElem_mem hj))
    exact ⟨bb, o, _, c, j, (rm m.old t)[j].2, rfl, q, hj, (hr.cell hj).2, hv.get_mem hm ht, (hv.one _ hm).1⟩
/-- What Get tells: z where there is nothing. -/
def Dm.gets (m : Dm) (t : ByteArray) (z : Value) : Value × Bool := match m.get t with | some v => (v, true) | none => (z, false)
/-- dict.Get -/
theorem getS_is (B g gn go K : Nat) (ow : Ow) (m : Dm) (nv ov : List Value) (t : ByteArray) (w : World) (h : DR w B 64 70 69 g ow m gn go nv ov) (hi : Inv K m) (hK : K ≤ 1000000000) (ht : t.size ≤ 9223372036854775807) (hh : Hv w) :
    Calls Tryd.prog 12 #[.pointer (some ⟨g, 0, none⟩), .string t] w fun e w' => e = .returned (.tuple #[(m.gets t (.string ⟨#[]⟩)).1, .bool (m.gets t (.string ⟨#[]⟩)).2]) ∧ Below w.heap.size w w' := by
  have HF := Lib.hid (findS_is B g gn go K ow m nv ov t w h hi hK ht hh)
  obtain ⟨G, hG⟩ : ∃ G, G = m.gets t (.string ⟨#[]⟩) := ⟨_, rfl⟩
  have HNO := Lib.hid (fun (b k : Nat) (i : Int) (hf : Found m t gn go b k i) (h0 : i < 0) => (by rw [hG]; unfold Dm.gets; rw [get_none (found_no hi hf h0)] : G = ((.string ⟨#[]⟩), false)))
  have HYES := Lib.hid (fun (wx : World) (hb : Below w.heap.size w wx) (b k : Nat) (i : Int) (hf : Found m t gn go b k i) (h0 : 0 ≤ i) => (by
    obtain ⟨bb, o, L, c, j, v, h1, h2, h3, h4, h5, h6⟩ := found_yes (h.below hb) hi hf h0
    exact ⟨bb, o, L, c, j, v, h1, h2, h3, h4, by rw [hG]; unfold Dm.gets; rw [h5], h6⟩ : ∃ bb o L c j v, i = ((j : Nat) : Int) ∧ wx.cell? ⟨b, k, none⟩ = some (.slice (some ⟨bb, o, none⟩) L c) ∧ j < L ∧ wx.cell? ⟨bb, o + j * 2 + 1, none⟩ = some v ∧ G = (v, true) ∧ v.oneCell' = true))
  rw [← hG]
  clear h hi hh ht hG
  go_enter Tryd.func12, Tryd.ntmps12
  go_upto_region 2 with (go_at_call 31; refine Calls.mono HF.out ?_; rintro e w1 ⟨b, k, i, rfl, hf, hb1⟩)
  have HB := Lib.hid hb1
  by_cases h0 : i < 0
  · have HG := Lib.hid (HNO.out _ _ _ hf h0)
    clear HNO HYES HF hb1
    go_wp2
    go_ret2
    exact ⟨by rw [HG.out]; rfl, HB.out⟩
  · obtain ⟨bb, o, L, c, j, v, rfl, q1, q2, q3, hg, hv⟩ := HYES.out w1 hb1 b k i hf (Int.not_lt.1 h0)
    have HG := Lib.hid hg
    clear HNO HYES HF hb1 hg
    go_wp2
    go_ret2
    exact ⟨by rw [HG.out]; rfl, HB.out⟩
/-- dict.Len -/
theorem lenS_is (B g gn go : Nat) (ow : Ow) (m : Dm) (nv ov : List Value) (w : World) (h : DR w B 64 70 69 g ow m gn go nv ov) :
    Calls Tryd.prog 23 #[.pointer (some ⟨g, 0, none⟩)] w fun e w' => e = .returned (.int .i64 (m.many : Int)) ∧ w = w' := by
  obtain ⟨q0, q1, q2, q3⟩ := cells4 h.blk
  clear h q0 q1 q2
  go_enter Tryd.func23, Tryd.ntmps23
  go_wp2
  go_ret
  exact ⟨rfl, rfl⟩
/-- dict.Get -/
theorem getI_is (B g gn go K : Nat) (ow : Ow) (m : Dm) (nv ov : List Value) (t : ByteArray) (w : World) (h : DR w B 75 81 80 g ow m gn go nv ov) (hi : Inv K m) (hK : K ≤ 1000000000) (ht : t.size ≤ 9223372036854775807) (hh : Hv w) :
    Calls Tryd.prog 16 #[.pointer (some ⟨g, 0, none⟩), .string t] w fun e w' => e = .returned (.tuple #[(m.gets t (.int .i64 0)).1, .bool (m.gets t (.int .i64 0)).2]) ∧ Below w.heap.size w w' := by
  have HF := Lib.hid (findI_is B g gn go K ow m nv ov t w h hi hK ht hh)
  obtain ⟨G, hG⟩ : ∃ G, G = m.gets t (.int .i64 0) := ⟨_, rfl⟩
  have HNO := Lib.hid (fun (b k : Nat) (i : Int) (hf : Found m t gn go b k i) (h0 : i < 0) => (by rw [hG]; unfold Dm.gets; rw [get_none (found_no hi hf h0)] : G = ((.int .i64 0), false)))
  have HYES := Lib.hid (fun (wx : World) (hb : Below w.heap.size w wx) (b k : Nat) (i : Int) (hf : Found m t gn go b k i) (h0 : 0 ≤ i) => (by
    obtain ⟨bb, o, L, c, j, v, h1, h2, h3, h4, h5, h6⟩ := found_yes (h.below hb) hi hf h0
    exact ⟨bb, o, L, c, j, v, h1, h2, h3, h4, by rw [hG]; unfold Dm.gets; rw [h5], h6⟩ : ∃ bb o L c j v, i = ((j : Nat) : Int) ∧ wx.cell? ⟨b, k, none⟩ = some (.slice (some ⟨bb, o, none⟩) L c) ∧ j < L ∧ wx.cell? ⟨bb, o + j * 2 + 1, none⟩ = some v ∧ G = (v, true) ∧ v.oneCell' = true))
  rw [← hG]
  clear h hi hh ht hG
  go_enter Tryd.func16, Tryd.ntmps16
  go_upto_region 2 with (go_at_call 34; refine Calls.mono HF.out ?_; rintro e w1 ⟨b, k, i, rfl, hf, hb1⟩)
  have HB := Lib.hid hb1
  by_cases h0 : i < 0
  · have HG := Lib.hid (HNO.out _ _ _ hf h0)
    clear HNO HYES HF hb1
    go_wp2
    go_ret2
    exact ⟨by rw [HG.out]; rfl, HB.out⟩
  · obtain ⟨bb, o, L, c, j, v, rfl, q1, q2, q3, hg, hv⟩ := HYES.out w1 hb1 b k i hf (Int.not_lt.1 h0)
    have HG := Lib.hid hg
    clear HNO HYES HF hb1 hg
    go_wp2
    go_ret2
    exact ⟨by rw [HG.out]; rfl, HB.out⟩
/-- dict.Len -/
theorem lenI_is (B g gn go : Nat) (ow : Ow) (m : Dm) (nv ov : List Value) (w : World) (h : DR w B 75 81 80 g ow m gn go nv ov) :
    Calls Tryd.prog 20 #[.pointer (some ⟨g, 0, none⟩)] w fun e w' => e = .returned (.int .i64 (m.many : Int)) ∧ w = w' := by
  obtain ⟨q0, q1, q2, q3⟩ := cells4 h.blk
  clear h q0 q1 q2
  go_enter Tryd.func20, Tryd.ntmps20
  go_wp2
  go_ret
  exact ⟨rfl, rfl⟩
/-- dict.Rooms -/
theorem rooms_is (B g gn go K : Nat) (ow : Ow) (m : Dm) (nv ov : List Value) (w : World) (h : DR w B 75 81 80 g ow m gn go nv ov) (hi : Inv K m) (hK : K ≤ 1000000000) :
    Calls Tryd.prog 19 #[.pointer (some ⟨g, 0, none⟩)] w fun e w' => e = .returned (.tuple #[.int .i64 (m.now.length : Int), .int .i64 ((m.old.length : Int) - (m.next : Int))]) ∧ Below w.heap.size w w' := by
  obtain ⟨q0, q1, q2, q3⟩ := cells4 h.blk
  have h1 := hi.oK
  have h2 := hi.nK
  have h3 : m.next ≤ m.old.length := by
    by_cases ho : m.old = []
    · rw [hi.nx0 ho]; omega
    · have := hi.nx ho; omega
  generalize m.now.length = N at q0 h2 ⊢
  generalize m.old.length = O at q1 h1 h3 ⊢
  generalize m.next = X at q2 h3 ⊢
  have hw : IntKind.i64.wrap ((O : Int) - (X : Int)) = (O : Int) - (X : Int) := wrap_small _ (by omega) (by omega)
  have q1' : ∃ A, w.cell? ⟨g, 1, none⟩ = some (.slice A O O) := by
    rw [q1]; unfold slV
    by_cases h0 : O = 0
    · rw [if_pos h0, h0]; exact ⟨_, rfl⟩
    · rw [if_neg h0]; exact ⟨_, rfl⟩
  obtain ⟨A, q1'⟩ := q1'
  clear h hi q1 q3
  go_enter Tryd.func19, Tryd.ntmps19
  go_upto_region 1 with fail
  go_quiet (fail)
  go_wp2
  go_ret2
  exact ⟨rfl, (by ((repeat (first | exact Below.refl _ _ | (refine Below.drew ?_) | (refine Go.below_drewN ?_ _) | (refine Below.alloc ?_ (by first | (simp; done) | omega | (simp; omega)) _) | (refine Below.setCell ?_ (by first | (simp; done) | omega | (simp; omega)) _) | (refine Below.trans ?_ (Below.mono (by assumption) (by first | (simp; done) | omega | (simp; omega)))))); done))⟩
end Go.Proofs.YtfdcacjfngjmdaaDoor.T
