import Derived.Deep.DeepCutAuto
import Derived.Laws.OwnMore
import Derived.OwnWalk
import Derived.Lib.AppendStr
import Derived.Lib.SliceRun
import Derived.Lib.SmallJoins
import Derived.IntWalk
import Derived.WalkMore
import Derived.Lib.OthersKept
import Derived.Deep.LoopGhost
import Derived.Deep.RegionLaw
import Derived.Deep.AppendLies
import Derived.Test.YtfdcacjfngjmdaaDoorProg
import Derived.Test.YtfdcacjfngjmdaaDoorMem
import Derived.Test.YtfdcacjfngjmdaaDoorBlk
import Derived.Test.YtfdcacjfngjmdaaDoorAp
import Derived.Test.YtfdcacjfngjmdaaDoorDx
import Derived.Test.YtfdcacjfngjmdaaDoorDo
import Derived.WalkKit
import Derived.Outline
import Derived.WalkLawsBesides
import Derived.Deep.QuietTactic
import Derived.BigQuiet
import Derived.Lib.Hide
import Derived.Handy
import Derived.Deep.RegionHeld3
import Derived.Deep.DrawnRows
import Derived.KernelRfl
import Derived.Great.Walk
import Derived.Test.YtfdcacjfngjmdaaDoorOwn
namespace Go.Proofs.YtfdcacjfngjmdaaDoor.T
open Go Go.RowKit Go.Sort Mem Own
set_option maxRecDepth 100000
set_option maxHeartbeats 1000000
set_option linter.unusedVariables false
set_option linter.unusedSimpArgs false

theorem eq_of_same {la lb : List ByteArray} (hl : la.length = lb.length) (h : ∀ j (h1 : j < la.length) (h2 : j < lb.length), la[j] = lb[j]) : la = lb := List.ext_getElem hl h

/-- ref06.Same: are two lists the same? -/
theorem same_is (A B : Option Addr) (la lb : List ByteArray) (ca cb : Nat) (w : World) (ha : Rd w A la) (hb : Rd w B lb) (hn : la.length < 2 ^ 62) (hm : lb.length < 2 ^ 62) :
    Calls Tryd.prog 21 #[.slice A la.length ca, .slice B lb.length cb] w fun e w' => e = .returned (.bool (decide (la = lb))) ∧ Below w.heap.size w w' := by
  go_enter Tryd.func21, Tryd.ntmps21
  have HA := Lib.hid ha; have HB := Lib.hid hb
  clear ha hb
  by_cases hl : la.length = lb.length
  · go_wp2_with fail
    go_loopw [5] (fun x wr => ∃ k : Nat, k ≤ la.length ∧ x = .int .i64 k ∧ Below w.heap.size w wr ∧ (∀ j (h1 : j < la.length) (h2 : j < lb.length), j < k → la[j] = lb[j])) (fun x _ => la.length - (intOf x).toNat)
    case atStart => exact ⟨0, Nat.zero_le _, rfl, Below.refl _ _, fun j _ _ h => by omega⟩
    case round =>
      obtain ⟨k, hk, rfl, hbw, hsame⟩ := hrel
      by_cases hlt : k < la.length
      · obtain ⟨b1, o1, rfl⟩ := HA.out.addr (by omega)
        obtain ⟨b2, o2, rfl⟩ := HB.out.addr (by omega)
        have g1 := cell_below hbw (HA.out.cell hlt)
        have g2 := cell_below hbw (HB.out.cell (k := k) (by omega))
        obtain ⟨x, hx⟩ : ∃ x, x = la[k] := ⟨_, rfl⟩
        obtain ⟨y, hy⟩ : ∃ y, y = lb[k]'(by omega) := ⟨_, rfl⟩
        rw [← hx] at g1
        rw [← hy] at g2
        have HX := Lib.hid hx; have HY := Lib.hid hy; have HBW := Lib.hid hbw; have HS := Lib.hid hsame
        clear hx hy hbw hsame
        go_wp2
        go_quiet (fail)
        go_wp2
        · have hne : x ≠ y := fun e => by subst e; simp at *
          go_ret
          refine ⟨ret_bool (Eq.symm (decide_eq_false fun e => hne ?_)), Go.below_drewN HBW.out _⟩
          rw [HX.out, HY.out]; simp [e]
        · have he : x = y := ba_inj (by simpa using ‹(!x.toList == y.toList) = false›)
          refine ⟨⟨k + 1, by omega, by go_num, Go.below_drewN HBW.out _, fun j h1 h2 hj => ?_⟩, by simp [intOf]; omega⟩
          rcases Nat.lt_succ_iff_lt_or_eq.1 hj with h | rfl
          · exact HS.out j h1 h2 h
          · rw [← HX.out, ← HY.out]; exact he
      · have e : la = lb := eq_of_same hl fun j h1 h2 => hsame j h1 h2 (by omega)
        have HBW := Lib.hid hbw
        clear hsame hbw
        go_wp2
        go_ret
        exact ⟨by simp [e], HBW.out⟩
  · go_wp2
    go_ret
    exact ⟨by simp [show la ≠ lb from fun e => hl (by rw [e])], Below.refl _ _⟩
/-- Another dict is not touched. -/
theorem DR.other {w w' : World} {B D TR TI g g2 gn go : Nat} {ow ow' : Ow} {m : Dm} {nv ov : List Value} (h : DR w B D TR TI g ow m gn go nv ov) (hc : Chg B g2 ow ow' w w') (hne : g ≠ g2) : DR w' B D TR TI g ow' m gn go nv ov :=
  h.keep ⟨hc.below.size, fun b hb hr => hc.rest b hb (by rw [hr]; omega)⟩ hc.tags
/-- A row of nobody's. -/
structure Free (w : World) (B : Nat) (ow : Ow) (v : Value) (l : List ByteArray) : Prop where
  own : w.ownsRow B 9 1 v l.length (vs l)
  free : ∀ q, v.ownBlock = some q → (ow q).1 = 0
theorem Free.chg {w w' : World} {B B2 g : Nat} {ow ow' : Ow} {v : Value} {l : List ByteArray} (h : Free w B ow v l) (hc : Chg B2 g ow ow' w w') : Free w' B ow' v l := by
  refine ⟨own_keep h.own fun k hk o ho => ?_, fun q hq => ?_⟩
  · have := h.free k hk
    rw [hc.rest k (lt_of_blk ho) (by rw [this]; omega)]; exact ho
  · rw [hc.tags q (h.own.lt q hq).2]; exact h.free q hq
theorem Free.below {w w' : World} {B : Nat} {ow : Ow} {v : Value} {l : List ByteArray} (h : Free w B ow v l) (hb : Below w.heap.size w w') : Free w' B ow v l := ⟨own_below h.own hb, h.free⟩
theorem Free.rd {w : World} {B : Nat} {ow : Ow} {A : Option Addr} {n c : Nat} {l : List ByteArray} (h : Free w B ow (.slice A n c) l) : Rd w A l := (own_rd h.own).1
/-- The value of DictOrder. -/
def vv (s : ByteArray) : ByteArray := (ByteArray.mk #[118]) ++ s
def mo (l : List ByteArray) : Dm := l.foldl (fun m s => m.step.put s (.string (vv s))) Dm.new
theorem mo_step {l : List ByteArray} {i : Nat} (hi : i < l.length) : mo (l.take (i + 1)) = (mo (l.take i)).step.put l[i] (.string (vv l[i])) := by
  rw [List.take_succ_eq_append_getElem hi]; unfold mo; rw [List.foldl_append]; rfl
theorem mo_is {l : List ByteArray} (hs : ∀ x ∈ l, x.size ≤ maxLen) : ∀ i, i ≤ l.length → Inv i (mo (l.take i)) ∧ ∀ t, (t ∈ l.take i → (mo (l.take i)).get t = some (.string (vv t))) ∧ (t ∉ l.take i → (mo (l.take i)).get t = none)
  | 0, _ => ⟨by rw [List.take_zero]; exact Inv.new, fun t => ⟨fun h => by simp at h, fun _ => by
    rw [List.take_zero]
    exact get_none fun x hx => by have hx : x ∈ Dm.new.all := hx; simp [Dm.all, Dm.new, List.replicate] at hx⟩⟩
  | i + 1, h => by
    obtain ⟨h1, h2⟩ := mo_is hs i (by omega)
    obtain ⟨g1, g2⟩ := put_get h1.step (t := l[i]) (.string (vv l[i])) rfl (hs _ (List.getElem_mem (by omega)))
    rw [mo_step (by omega)]
    refine ⟨g1, fun t => ?_⟩
    rw [g2, step_get h1, List.take_succ_eq_append_getElem (by omega)]
    by_cases e : l[i].toList = t.toList
    · rw [if_pos e]
      exact ⟨fun _ => by rw [ba_inj e], fun hn => absurd (by rw [← ba_inj e]; exact List.mem_append_right _ (List.mem_singleton.2 rfl)) hn⟩
    · rw [if_neg e]
      have hne : t ≠ l[i] := fun q => e (by rw [q])
      refine ⟨fun hm => (h2 t).1 ?_, fun hm => (h2 t).2 fun q => hm (List.mem_append_left _ q)⟩
      rcases List.mem_append.1 hm with hm | hm
      · exact hm
      · exact absurd (List.mem_singleton.1 hm) hne
theorem mo_all {l : List ByteArray} (hs : ∀ x ∈ l, x.size ≤ maxLen) : Inv l.length (mo l) ∧ ∀ t, (t ∈ l → (mo l).get t = some (.string (vv t))) ∧ (t ∉ l → (mo l).get t = none) := by
  have := mo_is hs l.length (Nat.le_refl _)
  rwa [List.take_length] at this
theorem names_nodup {K : Nat} {m : Dm} (h : Inv K m) : m.names.Nodup := by
  have : (m.names.map ByteArray.toList).Nodup := by unfold Dm.names; rw [List.map_map]; exact h.names
  exact (List.pairwise_map.1 this).imp fun hne e => hne (by rw [e])
theorem mem_names {K : Nat} {m : Dm} (h : Inv K m) (t : ByteArray) : t ∈ m.names ↔ m.get t ≠ none := by
  constructor
  · intro ht
    obtain ⟨x, hx, rfl⟩ := List.mem_map.1 ht
    rw [h.get_mem hx rfl]; simp
  · intro hg
    refine Classical.byContradiction fun hn => hg (get_none fun x hx e => hn ?_)
    exact List.mem_map.2 ⟨x, hx, ba_inj e⟩
theorem names_perm {K K' : Nat} {m m' : Dm} (h : Inv K m) (h' : Inv K' m') (hg : ∀ t, m.get t = none ↔ m'.get t = none) : m.names.Perm m'.names := by
  refine (List.perm_ext_iff_of_nodup (names_nodup h) (names_nodup h')).2 fun t => ?_
  rw [mem_names h, mem_names h', ne_eq, ne_eq, hg t]
theorem names_len {K : Nat} {m : Dm} (h : Inv K m) : m.names.length = m.many := by unfold Dm.names; rw [List.length_map, h.count]
/-- The order is not seen. -/
theorem mo_perm {l l2 : List ByteArray} (hp : l2.Perm l) (hs : ∀ x ∈ l, x.size ≤ maxLen) : srt (mo l).names = srt (mo l2).names ∧ (mo l).many = (mo l2).many ∧ ∀ t ∈ l, (mo l2).gets t (.string ⟨#[]⟩) = (.string (vv t), true) := by
  obtain ⟨h1, h2⟩ := mo_all hs
  obtain ⟨g1, g2⟩ := mo_all (l := l2) fun x hx => hs x (hp.mem_iff.1 hx)
  have hn := names_perm h1 g1 fun t => by
    by_cases hm : t ∈ l
    · rw [(h2 t).1 hm, (g2 t).1 (hp.mem_iff.2 hm)]
    · rw [(h2 t).2 hm, (g2 t).2 (fun q => hm (hp.mem_iff.1 q))]
  refine ⟨srt_eq hn, by rw [← names_len h1, ← names_len g1, hn.length_eq], fun t ht => ?_⟩
  unfold Dm.gets
  rw [(g2 t).1 (hp.mem_iff.2 ht)]
/-- From address A on lie the numbers l. -/
def RdZ (w : World) (A : Option Addr) (l : List Int) : Prop := l = [] ∨ ∃ b off, A = some ⟨b, off, none⟩ ∧ ∀ i x, l[i]? = some x → w.cell? ⟨b, off + i, none⟩ = some (.int .i64 x)
theorem RdZ.below {w w' : World} {A : Option Addr} {l : List Int} (h : RdZ w A l) (hb : Below w.heap.size w w') : RdZ w' A l := by
  rcases h with h | ⟨b, off, rfl, h⟩
  · exact .inl h
  · exact .inr ⟨b, off, rfl, fun i x hx => cell_below hb (h i x hx)⟩
theorem RdZ.cell {w : World} {b off : Nat} {l : List Int} {k : Nat} (h : RdZ w (some ⟨b, off, none⟩) l) (hk : k < l.length) : w.cell? ⟨b, off + k, none⟩ = some (.int .i64 l[k]) := by
  rcases h with rfl | ⟨b', off', e, h⟩
  · simp at hk
  · injection e with e; injection e with e1 e2; subst e1; subst e2
    exact h k _ (List.getElem?_eq_getElem hk)
theorem RdZ.addr {w : World} {A : Option Addr} {l : List Int} (h : RdZ w A l) (hl : 0 < l.length) : ∃ b off, A = some ⟨b, off, none⟩ := by
  rcases h with rfl | ⟨b, off, e, h⟩
  · simp at hl
  · exact ⟨b, off, e⟩
end Go.Proofs.YtfdcacjfngjmdaaDoor.T
