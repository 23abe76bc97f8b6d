import Derived.Deep.DeepCutAuto
import Derived.Laws.OwnMore
import Derived.OwnWalk
import Derived.Lib.AppendStr
import Derived.Lib.SliceRun
import Derived.Lib.SmallJoins
import Derived.IntWalk
import Derived.WalkMore
import Derived.Lib.OthersKept
import Derived.Deep.LoopGhost
import Derived.Deep.RegionLaw
import Derived.Deep.AppendLies
import Derived.Test.YtfdcacjfngjmdaaDoorProg
import Derived.Test.YtfdcacjfngjmdaaDoorMem
import Derived.Test.YtfdcacjfngjmdaaDoorBlk
import Derived.Test.YtfdcacjfngjmdaaDoorAp
import Derived.Test.YtfdcacjfngjmdaaDoorDf
import Derived.WalkKit
import Derived.Outline
import Derived.WalkLawsBesides
import Derived.Deep.QuietTactic
import Derived.BigQuiet
import Derived.Lib.Hide
import Derived.Handy
import Derived.Deep.RegionHeld3
import Derived.Deep.DrawnRows
import Derived.KernelRfl
import Derived.Great.Walk
import Derived.Test.YtfdcacjfngjmdaaDoorOwn
namespace Go.Proofs.YtfdcacjfngjmdaaDoor.T
open Go Go.RowKit Go.Sort Mem Own
set_option maxRecDepth 100000
set_option maxHeartbeats 1000000
set_option linter.unusedVariables false
set_option linter.unusedSimpArgs false

/-- One item goes into its room. -/
def addR (l : List (List It)) (x : It) : List (List It) := l.set (hsh x.1 % l.length) (rm l x.1 ++ [x])
def addAll (l : List (List It)) (r : List It) : List (List It) := r.foldl addR l
theorem addR_len (l : List (List It)) (x : It) : (addR l x).length = l.length := by simp [addR]
theorem addAll_len : ∀ (r : List It) (l : List (List It)), (addAll l r).length = l.length
  | [], l => rfl
  | x :: r, l => by show (addAll (addR l x) r).length = _; rw [addAll_len r, addR_len]
theorem addAll_take {l : List (List It)} {r : List It} {i : Nat} (hi : i < r.length) : addAll l (r.take (i + 1)) = addR (addAll l (r.take i)) r[i] := by
  rw [List.take_succ_eq_append_getElem hi]; unfold addAll; rw [List.foldl_append]; rfl
/-- The shape of a dict: rooms, elder rooms, the next, how many. -/
def Dm.shape (m : Dm) : Nat × Nat × Nat × Nat := (m.now.length, m.old.length, m.next, m.many)
def Dm.step (m : Dm) : Dm :=
  if m.old.length = 0 then m
  else if m.next + 1 = m.old.length then { now := addAll m.now (m.old.getD m.next []), old := [], next := 0, many := m.many }
  else { now := addAll m.now (m.old.getD m.next []), old := m.old.set m.next [], next := m.next + 1, many := m.many }
/-- A room of the elder table is emptied. -/
theorem DR.drop {w : World} {B D TR TI g gn go : Nat} {ow : Ow} {m : Dm} {nv ov : List Value} (h : DR w B D TR TI g ow m gn go nv ov) {k : Nat} (hk : k < m.old.length) :
    DR (w.setCell ⟨go, k, none⟩ (.slice none 0 0)) B D TR TI g ow { m with old := m.old.set k [] } gn go nv (ov.set k (.slice none 0 0)) ∧ Chg B g ow ow w (w.setCell ⟨go, k, none⟩ (.slice none 0 0)) := by
  obtain ⟨ht, hne⟩ := h.old (fun e => by rw [e] at hk; simp at hk)
  have gg : g ≠ go := fun e => by have t1 := h.tag; rw [e, ht.tag] at t1; simp at t1
  refine ⟨⟨h.base, h.tag, ?_, ⟨h.now.base, h.now.tag, ?_, h.now.len, ?_⟩, fun _ => ⟨⟨ht.base, ht.tag, ?_, by simp [ht.len], ?_⟩, hne⟩⟩, ⟨Below.setCell (p := ⟨go, k, none⟩) (Below.refl _ _) ht.base _, fun _ _ => rfl, fun b _ hr => heap_set _ _ _ _ _ (fun e => hr (by rw [e, ht.tag]))⟩⟩
  · rw [heap_set _ _ _ _ _ gg]; simp only [List.length_set]; exact h.blk
  · rw [heap_set _ _ _ _ _ hne]; exact h.now.blk
  · intro j x hx
    obtain ⟨y, y1, y2, y3⟩ := h.now.rows j x hx
    refine ⟨y, y1, own_keep y2 fun q hq o ho => ?_, y3⟩
    rw [heap_set _ _ _ _ _ (fun e => by have t1 := y3 q hq; rw [e, ht.tag] at t1; simp at t1)]; exact ho
  · rw [blk_set ht.blk, arr_set]
  · intro j x hx
    by_cases hj : j = k
    · subst hj
      rw [List.getElem?_set_self hk] at hx
      injection hx with hx; subst hx
      exact ⟨.slice none 0 0, by rw [List.getElem?_set_self (by rw [ht.len]; exact hk)], World.ownsRow_nil _ _ _ _, fun q hq => by simp [Value.ownBlock] at hq⟩
    · rw [List.getElem?_set_ne (fun e => hj e.symm)] at hx
      obtain ⟨y, y1, y2, y3⟩ := ht.rows j x hx
      refine ⟨y, by rw [List.getElem?_set_ne (fun e => hj e.symm)]; exact y1, own_keep y2 fun q hq o ho => ?_, y3⟩
      rw [heap_set _ _ _ _ _ (fun e => by have t1 := y3 q hq; rw [e, ht.tag] at t1; simp at t1)]; exact ho
/-- A table's room: its cell, its value, the row. -/
theorem Tab.room {w : World} {B TR TI g : Nat} {ow : Ow} {b : Nat} {v : List Value} {l : List (List It)} (h : Tab w B TR TI g ow b v l) {k : Nat} {r : List It} (hk : l[k]? = some r) :
    ∃ A c, w.cell? ⟨b, k, none⟩ = some (.slice A r.length c) ∧ v[k]? = some (.slice A r.length c) ∧ RdI w A r ∧ w.ownsRow B TI 2 (.slice A r.length c) r.length (ics r) ∧ ∀ q, (Value.slice A r.length c).ownBlock = some q → ow q = (g + 1, b + 2, k) := by
  obtain ⟨u, h1, h2, h3⟩ := h.rows _ _ hk
  obtain ⟨A, c, rfl, -, hr, -, -⟩ := own_rdI h2
  exact ⟨A, c, by rw [of_blk h.blk, ← h1]; simp, h1, hr, h2, h3⟩
theorem flat_set : ∀ (l : List (List It)) (k : Nat) (r0 r1 : List It) (x : It), l[k]? = some r0 → r1.Perm (x :: r0) → (l.set k r1).flatten.Perm (x :: l.flatten)
  | [], k, r0, r1, x, h, _ => by simp at h
  | a :: l, 0, r0, r1, x, h, hp => by
    simp at h; subst h
    simp only [List.set_cons_zero, List.flatten_cons]
    exact hp.append_right _
  | a :: l, k + 1, r0, r1, x, h, hp => by
    simp only [List.set_cons_succ, List.flatten_cons]
    exact ((flat_set l k r0 r1 x (by simpa using h) hp).append_left a).trans List.perm_middle
theorem addR_perm {l : List (List It)} (x : It) (hl : 0 < l.length) : (addR l x).flatten.Perm (x :: l.flatten) :=
  flat_set l _ _ _ x (rm_at x.1 hl) (List.perm_append_comm.trans (List.Perm.refl _))
theorem addAll_perm : ∀ (r : List It) {l : List (List It)} (hl : 0 < l.length), (addAll l r).flatten.Perm (r ++ l.flatten)
  | [], l, _ => List.Perm.refl _
  | x :: r, l, hl => (addAll_perm r (l := addR l x) (by rw [addR_len]; exact hl)).trans (((addR_perm x hl).append_left r).trans List.perm_middle)
/-- What lies in a cell (a word of its own: a cell that is stored into stays a cell). -/
def cellv (w : World) (a : Addr) : Value := (w.cell? a).getD (.tuple #[])
theorem cellv_of {w : World} {a : Addr} {v : Value} (h : w.cell? a = some v) : w.cell? a = some (cellv w a) := by unfold cellv; rw [h]; rfl
theorem cellv_eq {w : World} {a : Addr} {v : Value} (h : w.cell? a = some v) : cellv w a = v := by unfold cellv; rw [h]; rfl
theorem cellv_set {w : World} {b k T : Nat} {vs : Array Value} {v u : Value} (h : w.heap[b]? = some (.cells vs T (0, 0))) (hk : w.cell? ⟨b, k, none⟩ = some u) : (w.setCell ⟨b, k, none⟩ v).cell? ⟨b, k, none⟩ = some (cellv (w.setCell ⟨b, k, none⟩ v) ⟨b, k, none⟩) := by
  have h1 := of_blk h k
  rw [hk] at h1
  have h2 : k < vs.size := (Array.getElem?_eq_some_iff.1 h1.symm).1
  have h3 := of_blk (blk_set (i := k) h v) k
  rw [Array.getElem?_setIfInBounds_self_of_lt h2] at h3
  exact cellv_of h3
theorem grow_blk {w w2 : World} {row : Option Nat} {o ob : Obj} {b : Nat} (hg : ((w.alloc o).drew).grownBy w2 row) (hb : w.heap[b]? = some ob) (hne : row ≠ some b) : w2.heap[b]? = some ob := by
  have h1 : (w.alloc o).drew.heap[b]? = some ob := blk_new hb o
  rw [hg.block b (lt_of_blk h1) (fun e => hne e.symm)]; exact h1
theorem st_new (P : Program) (w : World) (n : ByteArray) (u z : Value) (hu : u.oneCell' = true) (T : Nat) : (Go.store ⟨w.heap.size,1,none⟩ u).run P (w.alloc (.cells #[.string n, z] T)) = .ok () (w.alloc (.cells #[.string n, u] T)) := by
  have h := (new1 w #[.string n, z] T).1
  rw [run_store _ _ _ _ _ hu, of_blk h, of_blk_free h]
  simp [go_sem]
theorem Hv.keep {w w' : World} {B : Nat} (h : Hv w) (hb : Below B w w') (h0 : 0 < B) : Hv w' := fun i hi => by
  have := h i hi
  unfold World.cell? at this ⊢
  rw [hb.block 0 h0]; exact this
theorem Tab.rd {w : World} {B TR TI g : Nat} {ow : Ow} {b : Nat} {v : List Value} {l : List (List It)} (h : Tab w B TR TI g ow b v l) {k : Nat} {r : List It} {A : Option Addr} {n c : Nat} (hk : l[k]? = some r) (hv : v[k]? = some (.slice A n c)) : RdI w A r := by
  obtain ⟨A2, c2, -, h2, h3, -, -⟩ := h.room hk
  rw [hv] at h2; injection h2 with h2; injection h2 with h2 _ _; rw [h2]; exact h3
theorem info69 : (Tryd.prog.info? 69).map (fun i => (i.zero, i.size, i.bytes)) = some (some (.agg #[.string ⟨#[]⟩, (.string ⟨#[]⟩)]), 2, 32) := by kernel_rfl
/-- dict.Step -/
theorem stepS_is (B g gn go K : Nat) (ow : Ow) (m : Dm) (nv ov : List Value) (w : World) (h : DR w B 64 70 69 g ow m gn go nv ov) (hi : Inv K m) (hK : K ≤ 1000000000) (hh : Hv w) (hB0 : 0 < B) :
    Calls Tryd.prog 30 #[.pointer (some ⟨g, 0, none⟩)] w fun e w' => e = .returned (.bool (!(m.old.length == 0))) ∧ ∃ ow' nv' ov', DR w' B 64 70 69 g ow' m.step gn go nv' ov' ∧ Chg B g ow ow' w w' := by
  have hBw : B ≤ w.heap.size := by have h1 := h.base; have h2 := lt_of_blk h.blk; omega
  obtain ⟨O, hO⟩ : ∃ O, O = m.old.length := ⟨_, rfl⟩
  obtain ⟨q0, q1, q2, q3⟩ := cells4 h.blk
  rw [← hO] at q1 ⊢
  rcases Nat.eq_zero_or_pos O with h0 | h0
  · subst h0
    have hst : m.step = m := by unfold Dm.step; rw [if_pos hO.symm]
    rw [hst]
    have HD := Lib.hid h
    have q1' : w.cell? ⟨g, 1, none⟩ = some (.slice none 0 0) := q1
    clear h hi hh q0 q1 q2 q3 hO hst
    go_enter Tryd.func30, Tryd.ntmps30
    go_wp2
    go_ret
    exact ⟨rfl, ow, nv, ov, HD.out.below (by ((repeat (first | exact Below.refl _ _ | (refine Below.drew ?_) | (refine Go.below_drewN ?_ _) | (refine Below.alloc ?_ (by first | (simp; done) | omega | (simp; omega)) _) | (refine Below.setCell ?_ (by first | (simp; done) | omega | (simp; omega)) _) | (refine Below.trans ?_ (Below.mono (by assumption) (by first | (simp; done) | omega | (simp; omega)))))); done)), Chg.of_below (by ((repeat (first | exact Below.refl _ _ | (refine Below.drew ?_) | (refine Go.below_drewN ?_ _) | (refine Below.alloc ?_ (by first | (simp; done) | omega | (simp; omega)) _) | (refine Below.setCell ?_ (by first | (simp; done) | omega | (simp; omega)) _) | (refine Below.trans ?_ (Below.mono (by assumption) (by first | (simp; done) | omega | (simp; omega)))))); done)) hBw⟩
  · have hnx : m.next < O := by rw [hO]; exact hi.nx (fun e => by rw [e] at hO; simp at hO; omega)
    have hne : m.old ≠ [] := fun e => by rw [e] at hO; simp at hO; omega
    rw [slV_pos h0] at q1
    obtain ⟨r, hr⟩ : ∃ r, r = m.old.getD m.next [] := ⟨_, rfl⟩
    have hrx : m.old[m.next]? = some r := by rw [hr, List.getD_eq_getElem?_getD, List.getElem?_eq_getElem (by omega)]; rfl
    obtain ⟨A, c, q4, hov, -, -, -⟩ := (h.old hne).1.room hrx
    obtain ⟨L, hL⟩ : ∃ L, L = r.length := ⟨_, rfl⟩
    rw [← hL] at q4
    have HD := Lib.hid h
    have HI := Lib.hid hi
    have HH := Lib.hid hh
    have HL := Lib.hid hL
    have HO := Lib.hid hO
    have HR := Lib.hid hrx
    have HOV := Lib.hid hov
    have HNE := Lib.hid hne
    have hLK : L ≤ 1000000000 := by
      have h1 := mem_len r (List.mem_of_getElem? hrx)
      have h2 := hi.count
      have h3 := hi.mK
      unfold Dm.all at h2; rw [List.length_append] at h2
      omega
    obtain ⟨X, hX⟩ : ∃ X, X = m.next := ⟨_, rfl⟩
    rw [← hX] at q2 q4 hnx
    have hX1 : (X : Int) < (O : Int) := by omega
    have hX2 : (X : Int) ≤ (O : Int) := by omega
    have hX3 : (0 : Int) ≤ (X : Int) := by omega
    have hOb : O ≤ 1000000000000 := by have := hi.oK; omega
    have hb0 : ((O : Int) == 0) = false := by simp; omega
    have hd0 : decide ((O : Int) = 0) = false := by simp; omega
    have HX := Lib.hid hX
    clear h hi hh hr hrx q0 q3 hO hL hX hov hne
    go_enter Tryd.func30, Tryd.ntmps30
    go_upto_region 3 with fail
    go_quiet (fail)
    go_wp2_with fail
    go_loopw [23] (fun s23 wr => ∃ (i : Nat) (ow1 : Ow) (nv1 : List Value), i ≤ L ∧ s23 = .int .i64 i ∧ RowKit.Hid (DR wr B 64 70 69 g ow1 { m with now := addAll m.now (r.take i) } gn go nv1 ov) ∧ RowKit.Hid (Chg B g ow ow1 w wr)) (fun s23 _ => L - (intOf s23).toNat)
    case atStart => exact ⟨0, ow, nv, Nat.zero_le _, rfl, Lib.hid (HD.out.below (by ((repeat (first | exact Below.refl _ _ | (refine Below.drew ?_) | (refine Go.below_drewN ?_ _) | (refine Below.alloc ?_ (by first | (simp; done) | omega | (simp; omega)) _) | (refine Below.setCell ?_ (by first | (simp; done) | omega | (simp; omega)) _) | (refine Below.trans ?_ (Below.mono (by assumption) (by first | (simp; done) | omega | (simp; omega)))))); done))), Lib.hid (Chg.of_below (by ((repeat (first | exact Below.refl _ _ | (refine Below.drew ?_) | (refine Go.below_drewN ?_ _) | (refine Below.alloc ?_ (by first | (simp; done) | omega | (simp; omega)) _) | (refine Below.setCell ?_ (by first | (simp; done) | omega | (simp; omega)) _) | (refine Below.trans ?_ (Below.mono (by assumption) (by first | (simp; done) | omega | (simp; omega)))))); done)) hBw)⟩
    case round =>
      obtain ⟨i, ow1, nv1, hil, rfl, HDR, HC⟩ := hrel
      obtain ⟨N, hN⟩ : ∃ N, N = m.now.length := ⟨_, rfl⟩
      have hN2 : (addAll m.now (r.take i)).length = N := by rw [addAll_len, hN]
      have hn4 : 4 ≤ N := by rw [hN]; exact HI.out.n4
      have hnK : N ≤ 1000000000000 := by have := HI.out.nK; omega
      have hzr := HC.out.below.size
      by_cases hlt : i < L
      · have hlt2 := Lib.hid (show i < r.length by rw [← HL.out]; exact hlt)
        have hrd := (HDR.out.old HNE.out).1.rd HR.out HOV.out
        obtain ⟨b1, o1, rfl⟩ := hrd.addr (by have := hlt2.out; omega)
        obtain ⟨g0, g1⟩ := hrd.cell hlt2.out
        obtain ⟨q0, -, -, -⟩ := cells4 HDR.out.blk
        dsimp only at q0
        rw [hN2] at q0
        have hxr := List.getElem_mem hlt2.out
        have HT := Lib.hid (addAll_take (l := m.now) hlt2.out)
        have hone := HI.out.one _ (List.mem_append_right _ (List.mem_flatten.2 ⟨r, List.mem_of_getElem? HR.out, hxr⟩))
        generalize r[i]'hlt2.out = x at g0 g1 hone HT
        obtain ⟨n, u⟩ := x
        dsimp only at g0 g1 hone HT
        obtain ⟨k, hk⟩ : ∃ k, k = hsh n % N := ⟨_, rfl⟩
        have hkN : k < N := by rw [hk]; exact Nat.mod_lt _ (by omega)
        obtain ⟨hu1, hsz⟩ := hone
        have HRM := Lib.hid (fun (wx : World) (hb : Below wr.heap.size wr wx) => (by rw [hk]; exact room_is n N wx (by unfold maxLen at hsz; omega) (by omega) hnK ((HH.out.keep HC.out.below hB0).below hb) : Calls Tryd.prog 32 #[.string n, .int .i64 (N : Int)] wx fun e w' => e = .returned (.int .i64 (k : Int)) ∧ Below wx.heap.size wx w'))
        have HNN := Lib.hid hN2
        have HKK := Lib.hid hk
        have HN1 := Lib.hid hN
        have HU1 := Lib.hid hu1
        clear hrd hxr hN hN2 hk
        have kst := st_new Tryd.prog wr n u (.string ⟨#[]⟩) hu1 69
        go_upto_region 6 with fail
        obtain ⟨wa, hwa⟩ : ∃ x, x = wr.alloc (.cells #[.string n, u] 69) := ⟨_, rfl⟩
        have HN := Lib.hid (new1 wr #[.string n, u] 69)
        have hz1 := alloc_sz wr (.cells #[.string n, u] 69)
        rw [← hwa] at HN hz1 ⊢
        clear hwa kst g0 g1 hu1 hsz q2 q4 q1
        obtain ⟨z0, z1⟩ := cells2 HN.out.1
        have r0 := cell_below HN.out.2 q0
        have hgl := lt_of_cell q0
        have hga : g < wa.heap.size := by dsimp only at hgl; omega
        have hna : wr.heap.size < wa.heap.size := by omega
        go_region_held3 (fun w' => w'.cell? ⟨g, 0, none⟩ = some (.slice (some ⟨gn, 0, none⟩) N N) ∧ w'.cell? ⟨wr.heap.size, 0, none⟩ = some (.string n) ∧ Below wa.heap.size wa w')
          (first | exact ⟨u0, u1, hS1⟩ | (refine ⟨by simpa [go_sem] using r0, by simpa [go_sem] using z0, (by ((repeat (first | exact Below.refl _ _ | (refine Below.drew ?_) | (refine Go.below_drewN ?_ _) | (refine Below.alloc ?_ (by first | (simp; done) | omega | (simp; omega)) _) | (refine Below.setCell ?_ (by first | (simp; done) | omega | (simp; omega)) _) | (refine Below.trans ?_ (Below.mono (by assumption) (by first | (simp; done) | omega | (simp; omega)))))); done))⟩))
          (first
            | (go_at_call 32; refine Calls.mono (HRM.out _ HN.out.2.drew) ?_; rintro e w1 ⟨rfl, hb1⟩; have hS1 : RowKit.Below wa.heap.size wa w1 := (RowKit.Below.refl _ _).drew.trans hb1; have u0 := cell_below hS1 r0; have u1 := cell_below hS1 z0))
        have hW1 : Below wr.heap.size wr w1 := HN.out.2.trans (hS1.mono HN.out.2.size)
        have HD1 := Lib.hid (HDR.out.below hW1)
        have HW1 := Lib.hid hW1
        have HX1 := Lib.hid (keep_blk hS1 HN.out.1)
        have hz3 := hS1.size
        have hlk : (addAll m.now (r.take i))[k]? = some (rm (addAll m.now (r.take i)) n) := by
          have := rm_at (l := addAll m.now (r.take i)) n (by rw [HNN.out]; omega)
          rw [HNN.out, ← HKK.out] at this; exact this
        have hln : (rm (addAll m.now (r.take i)) n).length ≤ 2000000000 := by
          have h1 := rm_len (addAll m.now (r.take i)) n
          have h2 := (addAll_perm (r.take i) (l := m.now) (by have := HI.out.n4; omega)).length_eq
          have h3 := HI.out.count
          have h4 := HI.out.mK
          unfold Dm.all at h3
          rw [List.length_append] at h2 h3
          rw [List.length_take] at h2
          omega
        have HLK := Lib.hid hlk
        obtain ⟨A2, c2, q5, hv2, -, how, htg⟩ := HD1.out.now.room hlk
        have q6 := of_blk_free HD1.out.now.blk k
        obtain ⟨q7, -, -, -⟩ := cells4 HD1.out.blk
        dsimp only at q7
        rw [HNN.out] at q7
        have HV2 := Lib.hid hv2
        have HOW := Lib.hid how
        have hne1 : (Value.slice A2 (rm (addAll m.now (r.take i)) n).length c2).ownBlock ≠ some g := fun e => by have t1 := htg g e; rw [HD1.out.tag] at t1; simp at t1
        have hne2 : (Value.slice A2 (rm (addAll m.now (r.take i)) n).length c2).ownBlock ≠ some gn := fun e => by have t1 := htg gn e; rw [HD1.out.now.tag] at t1; simp at t1
        have hne3 : (Value.slice A2 (rm (addAll m.now (r.take i)) n).length c2).ownBlock ≠ some wr.heap.size := fun e => by
          obtain ⟨A3, c3, -, e3, -, e4, -⟩ := HDR.out.now.room hlk
          rw [hv2] at e3; injection e3 with e3; rw [e3] at e
          have := (e4.lt _ e).2; omega
        obtain ⟨y0, y1⟩ := cells2 HX1.out
        have hgl1 : g < w1.heap.size := lt_of_blk HD1.out.blk
        have hgl2 : gn < w1.heap.size := lt_of_blk HD1.out.now.blk
        have hgl3 : wr.heap.size < w1.heap.size := lt_of_blk HX1.out
        have HGB := Lib.hid HD1.out.blk
        have HNB := Lib.hid HD1.out.now.blk
        obtain ⟨l2, hl2⟩ : ∃ l, l = (rm (addAll m.now (r.take i)) n).length := ⟨_, rfl⟩
        rw [← hl2] at hne1 hne2 hne3 q5 HV2 HOW hln
        have HL2 := Lib.hid hl2
        clear hlk hv2 how htg hl2 u0 u1 hb1 z0 z1 r0 q0
        obtain ⟨i0, hi0, hz0, hzz1, hz2⟩ := info_parts info69
        have HU2 := Lib.hid (show ∀ x ∈ [Value.string n, u], x.oneCell' = true from fun x hx => by
          simp only [List.mem_cons, List.not_mem_nil, or_false] at hx
          rcases hx with rfl | rfl
          · rfl
          · exact HU1.out)
        have hgg : g ≠ gn := fun e => by have t1 := HD1.out.tag; rw [e, HD1.out.now.tag] at t1; simp at t1
        have hgw : wr.heap.size ≠ gn := by have := lt_of_blk HDR.out.now.blk; omega
        have hcv := cellv_eq q5
        go_upto_region 7 with fail
        have HADD := Lib.hid (fun (w2 : World) (gg cap : Nat) (W : World) (hown : w2.ownsRow B 69 2 (.slice (some ⟨gg, 0, none⟩) (l2 + 1) cap) (l2 + 1) (ics (rm (addAll m.now (r.take i)) n) ++ [.string n, u])) (hgrow : W.grownBy w2 (Value.slice A2 l2 c2).ownBlock) (hBW : Below w1.heap.size w1 W) (hat : (Value.slice A2 l2 c2).ownBlock = some gg ∨ gg = w1.heap.size + 1) =>
          DR.add (v1 := .slice (some ⟨gg, 0, none⟩) (l2 + 1) cap) (l2 := rm (addAll m.now (r.take i)) n ++ [(n, u)]) HD1.out HLK.out HV2.out
            (by rw [List.length_append, ← HL2.out, ics_app]; exact hown)
            (Below.grown (hBW.mono (by have := HD1.out.base; have := lt_of_blk HD1.out.blk; omega)) hgrow (by have := hBW.size; have := HD1.out.base; have := lt_of_blk HD1.out.blk; omega) (fun q hq => (HOW.out.lt q hq).1))
            (fun q hq hne => (hgrow.block q (by have := hBW.size; omega) hne).trans (hBW.block q hq))
            (by rcases hat with e | e
                · exact .inl e.symm
                · exact .inr fun q hq => (by have e2 : gg = q := Option.some.inj hq; omega)))
        refine wp_region_noPanic ?_
        refine wp_region_held_drew (S := (fun w' => w'.cell? ⟨g, 0, none⟩ = some (.slice (some ⟨gn, 0, none⟩) N N) ∧ w'.cell? ⟨wr.heap.size, 0, none⟩ = some (.string n) ∧ w'.cell? ⟨wr.heap.size, 1, none⟩ = some u)) (by kernel_rfl) ?_ (fun hHeld => ?_)
        · (try dsimp only); (first | exact ⟨s0, s2, s3⟩ | exact ⟨cell_off s0 hgg, cell_off s2 hgw, cell_off s3 hgw⟩ | exact ⟨q7, y0, y1⟩ | (go_split_ands; refine ⟨by go_keep, by go_keep, by go_keep⟩))
        refine wpAnyH_take (i := 0) (v := ?v1) rfl (by kernel_rfl) (by kernel_rfl) (by kernel_rfl) (fun _ _ _ h => h) (Or.inl ⟨by rfl, ?hy1⟩) (by assumption) ?rest1
        case hy1 => (intro w hSw; (try dsimp only at hSw); go_simp <;> (with_reducible rfl))
        try simp only [Act.put, List.setIfInBounds_toArray, List.set_cons_zero, List.set_cons_succ]
        refine wpAnyH_take (i := 1) (v := ?v2) rfl (by kernel_rfl) (by kernel_rfl) (by kernel_rfl) (fun _ _ _ h => h) (Or.inl ⟨by rfl, ?hy2⟩) (by assumption) ?rest2
        case hy2 => (intro w hSw; (try dsimp only at hSw); go_simp <;> (with_reducible rfl))
        try simp only [Act.put, List.setIfInBounds_toArray, List.set_cons_zero, List.set_cons_succ]
        refine wpAnyH_take (i := 2) (v := ?v3) rfl (by kernel_rfl) (by kernel_rfl) (by kernel_rfl) (fun _ _ _ h => h) (Or.inl ⟨by rfl, ?hy3⟩) (by assumption) ?rest3
        case hy3 => (intro w hSw; (try dsimp only at hSw); go_simp <;> (with_reducible rfl))
        try simp only [Act.put, List.setIfInBounds_toArray, List.set_cons_zero, List.set_cons_succ]
        refine wpAnyH_take (i := 3) (v := ?v4) rfl (by kernel_rfl) (by kernel_rfl) (by kernel_rfl) (fun _ _ _ h => h) (Or.inl ⟨by rfl, ?hy4⟩) (by assumption) ?rest4
        case hy4 => (intro w hSw; (try dsimp only at hSw); go_simp <;> (with_reducible rfl))
        try simp only [Act.put, List.setIfInBounds_toArray, List.set_cons_zero, List.set_cons_succ]
        refine wpAnyH_take (i := 4) (v := ?v5) rfl (by kernel_rfl) (by kernel_rfl) (by kernel_rfl) (fun _ _ _ h => h) (Or.inl ⟨by rfl, ?hy5⟩) (by assumption) ?rest5
        case hy5 => (intro w hSw; (try dsimp only at hSw); go_simp <;> (with_reducible rfl))
        try simp only [Act.put, List.setIfInBounds_toArray, List.set_cons_zero, List.set_cons_succ]
        refine wpAnyH_take (i := 5) (v := ?v6) rfl (by kernel_rfl) (by kernel_rfl) (by kernel_rfl) (fun _ _ _ h => h) (Or.inl ⟨by rfl, ?hy6⟩) (by assumption) ?rest6
        case hy6 => (intro w hSw; (try dsimp only at hSw); go_simp <;> (with_reducible rfl))
        try simp only [Act.put, List.setIfInBounds_toArray, List.set_cons_zero, List.set_cons_succ]
        refine wpAnyH_take (i := 6) (v := ?v7) rfl (by kernel_rfl) (by kernel_rfl) (by kernel_rfl) (fun _ _ _ h => h) (Or.inl ⟨by rfl, ?hy7⟩) (by assumption) ?rest7
        case hy7 => (intro w hSw; (try dsimp only at hSw); go_simp <;> (with_reducible rfl))
        try simp only [Act.put, List.setIfInBounds_toArray, List.set_cons_zero, List.set_cons_succ]
        refine wpAnyH_take (i := 7) (v := ?v8) rfl (by kernel_rfl) (by kernel_rfl) (by kernel_rfl) (fun _ _ _ h => h) (Or.inl ⟨by rfl, ?hy8⟩) (by assumption) ?rest8
        case hy8 => (intro w hSw; (try dsimp only at hSw); go_simp <;> (with_reducible rfl))
        try simp only [Act.put, List.setIfInBounds_toArray, List.set_cons_zero, List.set_cons_succ]
        refine wpAnyH_take (i := 8) (v := ?v9) rfl (by kernel_rfl) (by kernel_rfl) (by kernel_rfl) (fun _ _ _ h => h) (Or.inl ⟨by rfl, ?hy9⟩) (by assumption) ?rest9
        case hy9 => (intro w hSw; (try dsimp only at hSw); go_simp <;> (with_reducible rfl))
        try simp only [Act.put, List.setIfInBounds_toArray, List.set_cons_zero, List.set_cons_succ]
        refine wpAnyH_take (i := 9) (v := ?v10) rfl (by kernel_rfl) (by kernel_rfl) (by kernel_rfl) (fun _ _ _ h => h) (Or.inl ⟨by rfl, ?hy10⟩) (by assumption) ?rest10
        case hy10 => (intro w hSw; (try dsimp only at hSw); go_simp <;> (with_reducible rfl))
        try simp only [Act.put, List.setIfInBounds_toArray, List.set_cons_zero, List.set_cons_succ]
        refine wpAnyH_take (i := 10) (v := ?v11) rfl (by kernel_rfl) (by kernel_rfl) (by kernel_rfl) (fun _ _ _ h => h) (Or.inl ⟨by rfl, ?hy11⟩) (by assumption) ?rest11
        case hy11 => (intro w hSw; (try dsimp only at hSw); go_simp <;> (with_reducible rfl))
        try simp only [Act.put, List.setIfInBounds_toArray, List.set_cons_zero, List.set_cons_succ]
        refine wpAnyH_take (i := 12) (v := ?v12) rfl (by kernel_rfl) (by kernel_rfl) (by kernel_rfl) (fun _ _ _ h => h) (Or.inl ⟨by rfl, ?hy12⟩) (by assumption) ?rest12
        case hy12 => (intro w hSw; (try dsimp only at hSw); go_simp <;> (with_reducible rfl))
        try simp only [Act.put, List.setIfInBounds_toArray, List.set_cons_zero, List.set_cons_succ]
        refine wpAnyH_ready (rs := [11, 13]) (by kernel_rfl) (by simp) ?_
        refine AllReadyH.cons rfl (fun K hK => ?_) ?_
        · go_simp
          refine hK.out _ _ ?_ (fun hHeld => ?_)
          · (try dsimp only); (first | exact ⟨s0, s2, s3⟩ | exact ⟨cell_off s0 hgg, cell_off s2 hgw, cell_off s3 hgw⟩ | exact ⟨q7, y0, y1⟩ | (go_split_ands; refine ⟨by go_keep, by go_keep, by go_keep⟩))
          clear hK K
          try simp only [Act.put, List.setIfInBounds_toArray, List.set_cons_zero, List.set_cons_succ]
          refine wpAnyH_ready (rs := [13]) (by kernel_rfl) (by simp) ?_
          refine AllReadyH.cons rfl (fun K hK => ?_) ?_
          · go_simp
            refine hK.out _ _ ?_ (fun hHeld => ?_)
            · (try dsimp only); (first | exact ⟨s0, s2, s3⟩ | exact ⟨cell_off s0 hgg, cell_off s2 hgw, cell_off s3 hgw⟩ | exact ⟨q7, y0, y1⟩ | (go_split_ands; refine ⟨by go_keep, by go_keep, by go_keep⟩))
            clear hK K
            try simp only [Act.put, List.setIfInBounds_toArray, List.set_cons_zero, List.set_cons_succ]
            refine wpAnyH_ready (rs := [14]) (by kernel_rfl) (by simp) ?_
            refine AllReadyH.cons rfl (fun K hK => ?_) ?_
            · (refine step_append_lies _ (by rfl) _ _ _ (by rfl) B 69 i0 _ 2 32 Tryd.underlying70 hi0 hz0 hzz1 hz2 rfl (by omega) (.slice A2 l2 c2) l2 _ (by rfl) (by first | exact HOW.out.alloc _ | exact (HOW.out.alloc _).drew) ⟨w1.heap.size, 0, none⟩ 1 1 [.string n, u] (by rfl) (by rfl) (World.news_of_block (cs := #[.string n, u]) (t := 69) (fr := (0, 0)) (heap_alloc_new w1 _)) HU2.out (by omega) (by unfold maxLen; omega) (by omega) (by simp; omega) (w1.heap.size + 1) (by simp) ?_; intro gg cap w2 hown1 hgrow hat hlt9; have HQ2 := Lib.hid (HADD.out w2 gg cap _ hown1 hgrow (by ((repeat (first | exact Below.refl _ _ | (refine Below.drew ?_) | (refine Go.below_drewN ?_ _) | (refine Below.alloc ?_ (by first | (simp; done) | omega | (simp; omega)) _) | (refine Below.setCell ?_ (by first | (simp; done) | omega | (simp; omega)) _) | (refine Below.trans ?_ (Below.mono (by assumption) (by first | (simp; done) | omega | (simp; omega)))))); done)) hat); have hN2 : w2.heap[gn]? = some (.cells nv1.toArray 70 (0, 0)) := (hgrow.block gn (by simp; omega) (fun e => hne2 e.symm)).trans (by first | exact blk_new HNB.out _ | simpa using HNB.out); have s1 := (of_blk hN2 k).trans ((of_blk HNB.out k).symm.trans q5); have s4 := of_blk_free hN2 k; have hG2 := (hgrow.block g (by simp; omega) (fun e => hne1 e.symm)).trans (by first | exact blk_new HGB.out _ | simpa using HGB.out); have s0 := (cells4 hG2).1.trans ((cells4 HGB.out).1.symm.trans q7); have hX2 := (hgrow.block wr.heap.size (by simp; omega) (fun e => hne3 e.symm)).trans (by first | exact blk_new HX1.out _ | simpa using HX1.out); obtain ⟨s2, s3⟩ := cells2 hX2; clear hown1 hgrow hat hG2 hN2 hX2)
              refine hK.out _ _ ?_ (fun hHeld => ?_)
              · (try dsimp only); (first | exact ⟨s0, s2, s3⟩ | exact ⟨cell_off s0 hgg, cell_off s2 hgw, cell_off s3 hgw⟩ | exact ⟨q7, y0, y1⟩ | (go_split_ands; refine ⟨by go_keep, by go_keep, by go_keep⟩))
              clear hK K
              try simp only [Act.put, List.setIfInBounds_toArray, List.set_cons_zero, List.set_cons_succ]
              refine wpAnyH_take (i := 15) (v := ?v13) rfl (by kernel_rfl) (by kernel_rfl) (by kernel_rfl) (fun _ _ _ h => h) (Or.inl ⟨by rfl, ?hy13⟩) (by assumption) ?rest13
              case hy13 => (intro w hSw; (try dsimp only at hSw); go_simp <;> (with_reducible rfl))
              try simp only [Act.put, List.setIfInBounds_toArray, List.set_cons_zero, List.set_cons_succ]
              refine wpAnyH_ready (rs := [16]) (by kernel_rfl) (by simp) ?_
              refine AllReadyH.cons rfl (fun K hK => ?_) ?_
              · go_simp
                refine hK.out _ _ ?_ (fun hHeld => ?_)
                · (try dsimp only); (first | exact ⟨s0, s2, s3⟩ | exact ⟨cell_off s0 hgg, cell_off s2 hgw, cell_off s3 hgw⟩ | exact ⟨q7, y0, y1⟩ | (go_split_ands; refine ⟨by go_keep, by go_keep, by go_keep⟩))
                clear hK K
                try simp only [Act.put, List.setIfInBounds_toArray, List.set_cons_zero, List.set_cons_succ]
                refine wpAnyH_done (by kernel_rfl) ?_ _
                refine NoPanic.normal ?_
                obtain ⟨ow2, nv2, HD2, HC2⟩ : ∃ ow2 nv2, DR (w2.setCell ⟨gn, k, none⟩ (.slice (some ⟨gg, 0, none⟩) (l2 + 1) cap)) B 64 70 69 g ow2 { m with now := addAll m.now (r.take (i + 1)) } gn go nv2 ov ∧ Chg B g ow1 ow2 w1 (w2.setCell ⟨gn, k, none⟩ (.slice (some ⟨gg, 0, none⟩) (l2 + 1) cap)) := by
                  obtain ⟨ow2, h1, h2⟩ := HQ2.out
                  refine ⟨ow2, nv1.set k (.slice (some ⟨gg, 0, none⟩) (l2 + 1) cap), ?_, h2⟩
                  have e : (addAll m.now (r.take i)).set k (rm (addAll m.now (r.take i)) n ++ [(n, u)]) = addAll m.now (r.take (i + 1)) := by
                    rw [HT.out]; unfold addR; dsimp only; rw [HNN.out, ← HKK.out]
                  rw [← e]; exact h1
                have HE2 := Lib.hid HD2
                have HE3 := Lib.hid ((HC.out.trans (Chg.of_below HW1.out (by have := HC.out.below.size; omega))).trans HC2)
                clear HQ2 HD2 HC2 HADD
                go_wp2_with fail
                exact ⟨⟨i + 1, ow2, nv2, by omega, by go_num, HE2, HE3⟩, by simp [intOf]; omega⟩
              exact AllReadyH.nil
            exact AllReadyH.nil
          exact AllReadyH.nil
        refine AllReadyH.cons rfl (fun K hK => ?_) ?_
        · go_simp
          refine hK.out _ _ ?_ (fun hHeld => ?_)
          · (try dsimp only); (first | exact ⟨s0, s2, s3⟩ | exact ⟨cell_off s0 hgg, cell_off s2 hgw, cell_off s3 hgw⟩ | exact ⟨q7, y0, y1⟩ | (go_split_ands; refine ⟨by go_keep, by go_keep, by go_keep⟩))
          clear hK K
          try simp only [Act.put, List.setIfInBounds_toArray, List.set_cons_zero, List.set_cons_succ]
          refine wpAnyH_ready (rs := [11]) (by kernel_rfl) (by simp) ?_
          refine AllReadyH.cons rfl (fun K hK => ?_) ?_
          · go_simp
            refine hK.out _ _ ?_ (fun hHeld => ?_)
            · (try dsimp only); (first | exact ⟨s0, s2, s3⟩ | exact ⟨cell_off s0 hgg, cell_off s2 hgw, cell_off s3 hgw⟩ | exact ⟨q7, y0, y1⟩ | (go_split_ands; refine ⟨by go_keep, by go_keep, by go_keep⟩))
            clear hK K
            try simp only [Act.put, List.setIfInBounds_toArray, List.set_cons_zero, List.set_cons_succ]
            refine wpAnyH_ready (rs := [14]) (by kernel_rfl) (by simp) ?_
            refine AllReadyH.cons rfl (fun K hK => ?_) ?_
            · (refine step_append_lies _ (by rfl) _ _ _ (by rfl) B 69 i0 _ 2 32 Tryd.underlying70 hi0 hz0 hzz1 hz2 rfl (by omega) (.slice A2 l2 c2) l2 _ (by rfl) (by first | exact HOW.out.alloc _ | exact (HOW.out.alloc _).drew) ⟨w1.heap.size, 0, none⟩ 1 1 [.string n, u] (by rfl) (by rfl) (World.news_of_block (cs := #[.string n, u]) (t := 69) (fr := (0, 0)) (heap_alloc_new w1 _)) HU2.out (by omega) (by unfold maxLen; omega) (by omega) (by simp; omega) (w1.heap.size + 1) (by simp) ?_; intro gg cap w2 hown1 hgrow hat hlt9; have HQ2 := Lib.hid (HADD.out w2 gg cap _ hown1 hgrow (by ((repeat (first | exact Below.refl _ _ | (refine Below.drew ?_) | (refine Go.below_drewN ?_ _) | (refine Below.alloc ?_ (by first | (simp; done) | omega | (simp; omega)) _) | (refine Below.setCell ?_ (by first | (simp; done) | omega | (simp; omega)) _) | (refine Below.trans ?_ (Below.mono (by assumption) (by first | (simp; done) | omega | (simp; omega)))))); done)) hat); have hN2 : w2.heap[gn]? = some (.cells nv1.toArray 70 (0, 0)) := (hgrow.block gn (by simp; omega) (fun e => hne2 e.symm)).trans (by first | exact blk_new HNB.out _ | simpa using HNB.out); have s1 := (of_blk hN2 k).trans ((of_blk HNB.out k).symm.trans q5); have s4 := of_blk_free hN2 k; have hG2 := (hgrow.block g (by simp; omega) (fun e => hne1 e.symm)).trans (by first | exact blk_new HGB.out _ | simpa using HGB.out); have s0 := (cells4 hG2).1.trans ((cells4 HGB.out).1.symm.trans q7); have hX2 := (hgrow.block wr.heap.size (by simp; omega) (fun e => hne3 e.symm)).trans (by first | exact blk_new HX1.out _ | simpa using HX1.out); obtain ⟨s2, s3⟩ := cells2 hX2; clear hown1 hgrow hat hG2 hN2 hX2)
              refine hK.out _ _ ?_ (fun hHeld => ?_)
              · (try dsimp only); (first | exact ⟨s0, s2, s3⟩ | exact ⟨cell_off s0 hgg, cell_off s2 hgw, cell_off s3 hgw⟩ | exact ⟨q7, y0, y1⟩ | (go_split_ands; refine ⟨by go_keep, by go_keep, by go_keep⟩))
              clear hK K
              try simp only [Act.put, List.setIfInBounds_toArray, List.set_cons_zero, List.set_cons_succ]
              refine wpAnyH_take (i := 15) (v := ?v14) rfl (by kernel_rfl) (by kernel_rfl) (by kernel_rfl) (fun _ _ _ h => h) (Or.inl ⟨by rfl, ?hy14⟩) (by assumption) ?rest14
              case hy14 => (intro w hSw; (try dsimp only at hSw); go_simp <;> (with_reducible rfl))
              try simp only [Act.put, List.setIfInBounds_toArray, List.set_cons_zero, List.set_cons_succ]
              refine wpAnyH_ready (rs := [16]) (by kernel_rfl) (by simp) ?_
              refine AllReadyH.cons rfl (fun K hK => ?_) ?_
              · go_simp
                refine hK.out _ _ ?_ (fun hHeld => ?_)
                · (try dsimp only); (first | exact ⟨s0, s2, s3⟩ | exact ⟨cell_off s0 hgg, cell_off s2 hgw, cell_off s3 hgw⟩ | exact ⟨q7, y0, y1⟩ | (go_split_ands; refine ⟨by go_keep, by go_keep, by go_keep⟩))
                clear hK K
                try simp only [Act.put, List.setIfInBounds_toArray, List.set_cons_zero, List.set_cons_succ]
                refine wpAnyH_done (by kernel_rfl) ?_ _
                refine NoPanic.normal ?_
                obtain ⟨ow2, nv2, HD2, HC2⟩ : ∃ ow2 nv2, DR (w2.setCell ⟨gn, k, none⟩ (.slice (some ⟨gg, 0, none⟩) (l2 + 1) cap)) B 64 70 69 g ow2 { m with now := addAll m.now (r.take (i + 1)) } gn go nv2 ov ∧ Chg B g ow1 ow2 w1 (w2.setCell ⟨gn, k, none⟩ (.slice (some ⟨gg, 0, none⟩) (l2 + 1) cap)) := by
                  obtain ⟨ow2, h1, h2⟩ := HQ2.out
                  refine ⟨ow2, nv1.set k (.slice (some ⟨gg, 0, none⟩) (l2 + 1) cap), ?_, h2⟩
                  have e : (addAll m.now (r.take i)).set k (rm (addAll m.now (r.take i)) n ++ [(n, u)]) = addAll m.now (r.take (i + 1)) := by
                    rw [HT.out]; unfold addR; dsimp only; rw [HNN.out, ← HKK.out]
                  rw [← e]; exact h1
                have HE2 := Lib.hid HD2
                have HE3 := Lib.hid ((HC.out.trans (Chg.of_below HW1.out (by have := HC.out.below.size; omega))).trans HC2)
                clear HQ2 HD2 HC2 HADD
                go_wp2_with fail
                exact ⟨⟨i + 1, ow2, nv2, by omega, by go_num, HE2, HE3⟩, by simp [intOf]; omega⟩
              exact AllReadyH.nil
            exact AllReadyH.nil
          exact AllReadyH.nil
        exact AllReadyH.nil
      · have hiL : i = L := by omega
        have htk : r.take i = r := List.take_of_length_le (by rw [hiL, ← HL.out]; exact Nat.le_refl _)
        rw [htk] at HDR
        have HDX := Lib.hid HDR.out
        have hOL : ({ m with now := addAll m.now r } : Dm).old.length = O := HO.out.symm
        obtain ⟨-, y1, y2, -⟩ := cells4 HDX.out.blk
        rw [hOL, slV_pos h0] at y1
        have y2' : wr.cell? ⟨g, 2, none⟩ = some (.int .i64 (X : Int)) := by rw [y2, HX.out]
        have y3 := of_blk_free (HDX.out.old HNE.out).1.blk X
        obtain ⟨A9, c9, y4, -, -, -, -⟩ := (HDX.out.old HNE.out).1.room (by rw [HX.out]; exact HR.out : m.old[X]? = some r)
        have hgo : g ≠ go := fun e => by have t1 := HDX.out.tag; rw [e, (HDX.out.old HNE.out).1.tag] at t1; simp at t1
        have HDP := Lib.hid (HDX.out.drop (k := X) (by rw [hOL]; omega))
        have HCX := Lib.hid (HC.out.trans HDP.out.2)
        clear hN hN2 htk hiL y2 hOL
        go_upto_region 9 with fail
        go_cut [23] (fun s23 wx => RowKit.Hid (DR wx B 64 70 69 g ow1 { m with now := addAll m.now r, old := m.old.set X [] } gn go nv1 (ov.set X (.slice none 0 0))) ∧ RowKit.Hid (Chg B g ow ow1 w wx))
        case first =>
          go_region_held3 (fun w' => w'.cell? ⟨g, 1, none⟩ = some (.slice (some ⟨go, 0, none⟩) O O) ∧ w'.cell? ⟨g, 2, none⟩ = some (.int .i64 (X : Int)))
            (first | exact ⟨y1, y2'⟩ | exact ⟨cell_off y1 hgo, cell_off y2' hgo⟩)
            (fail)
          go_wp2_with fail
          go_meet
          exact ⟨Lib.hid (HDP.out.1.below (Below.refl _ _).drew), Lib.hid (HCX.out.trans (Chg.of_below (Below.refl _ _).drew (by rw [set_sz]; omega)))⟩
        case rest =>
          obtain ⟨HD9, HC9⟩ := hcut
          have hz9 := HC9.out.below.size
          have hOL : ({ m with now := addAll m.now r, old := m.old.set X [] } : Dm).old.length = O := by show (m.old.set X []).length = O; rw [List.length_set]; exact HO.out.symm
          have hb9 := HD9.out.blk
          rw [hOL, slV_pos h0, show ({ m with now := addAll m.now r, old := m.old.set X [] } : Dm).next = X from HX.out.symm] at hb9
          have HB9 := Lib.hid hb9
          have hw1 : IntKind.i64.wrap ((X : Int) + 1) = ((X + 1 : Nat) : Int) := wrap_small _ (by omega) (by omega)
          have HS10 := Lib.hid (HD9.out.cells (w1 := wc.setCell ⟨g, 2, none⟩ (.int .i64 ((X + 1 : Nat) : Int))) { m with now := addAll m.now r, old := m.old.set X [], next := X + 1 } rfl (.inl rfl) (fun b hb => heap_set _ _ _ _ _ hb) (Below.setCell (p := ⟨g, 2, none⟩) (Below.refl _ _) HD9.out.base _)
            (by rw [blk_set hb9]; dsimp only; rw [hOL, slV_pos h0]; rfl))
          obtain ⟨y0, y1, y2, y3⟩ := cells4 hb9
          obtain ⟨f0, f1, f2, f3⟩ := frees4 hb9
          clear hb9 hOL HDX HDP HCX HDR HC
          go_upto_region 10 with fail
          go_cut [23] (fun s23 wx => RowKit.Hid (DR wx B 64 70 69 g ow1 { m with now := addAll m.now r, old := m.old.set X [], next := X + 1 } gn go nv1 (ov.set X (.slice none 0 0))) ∧ RowKit.Hid (Chg B g ow ow1 w wx))
          case first =>
            go_wp2_with fail
            go_meet
            first
              | exact ⟨Lib.hid HS10.out.1, Lib.hid (HC9.out.trans HS10.out.2)⟩
              | (rw [hw1]; exact ⟨Lib.hid HS10.out.1, Lib.hid (HC9.out.trans HS10.out.2)⟩)
          case rest =>
            obtain ⟨HD10, HC10⟩ := hcut
            clear HS10 HC9 HB9 HD9 y0 y1 y2 y3 f0 f1 f2 f3
            have hz10 := HC10.out.below.size
            have hBg : B ≤ g := HD10.out.base
            have hret : (!(O == 0)) = true := by simp; omega
            have hOL : (m.old.set X []).length = O := by rw [List.length_set]; exact HO.out.symm
            have hb10 := HD10.out.blk
            rw [show ({ m with now := addAll m.now r, old := m.old.set X [], next := X + 1 } : Dm).old.length = O from hOL, slV_pos h0] at hb10
            obtain ⟨y0, y1, y2, y3⟩ := cells4 hb10
            obtain ⟨f0, f1, f2, f3⟩ := frees4 hb10
            have y2' : wc.cell? ⟨g, 2, none⟩ = some (.int .i64 ((X + 1 : Nat) : Int)) := y2
            have hrr : m.old.getD m.next [] = r := by rw [List.getD_eq_getElem?_getD, HR.out]; rfl
            have ho0 : ¬ m.old.length = 0 := by rw [← HO.out]; omega
            have HDN := Lib.hid (fun (w1 : World) (hb : ∀ b, b ≠ g → w1.heap[b]? = wc.heap[b]?) (hB : Below B wc w1) (hgb : w1.heap[g]? = some (.cells #[.slice (some ⟨gn, 0, none⟩) (addAll m.now r).length (addAll m.now r).length, .slice none 0 0, .int .i64 0, .int .i64 (m.many : Int)] 64 (0, 0))) =>
              HD10.out.cells (w1 := w1) { m with now := addAll m.now r, old := [], next := 0 } rfl (.inr rfl) hb hB hgb)
            by_cases he : X + 1 = O
            · have hst : m.step = { m with now := addAll m.now r, old := [], next := 0 } := by
                unfold Dm.step
                rw [if_neg ho0, hrr, if_pos (by rw [← HX.out, ← HO.out]; exact he)]
              have HST := Lib.hid hst
              have HBG := Lib.hid (show wc.heap[g]? = some (.cells #[.slice (some ⟨gn, 0, none⟩) (addAll m.now r).length (addAll m.now r).length, .slice (some ⟨go, 0, none⟩) O O, .int .i64 ((X + 1 : Nat) : Int), .int .i64 (m.many : Int)] 64 (0, 0)) from hb10)
              have hd : decide (((X + 1 : Nat) : Int) = (O : Int)) = true := decide_eq_true (by omega)
              have hbe : (((X + 1 : Nat) : Int) == (O : Int)) = true := by simp; omega
              clear hb10 y2 hst hrr ho0 hOL HD10 y0 y3 f0 f3
              go_upto_region 11 with fail
              go_quiet (fail)
              go_wp2
              go_ret
              have hW := HDN.out (((wc.drewN nq).setCell ⟨g, 1, none⟩ (.slice none 0 0)).setCell ⟨g, 2, none⟩ (.int .i64 0)) (fun b hb => by rw [heap_set _ _ _ _ _ hb, heap_set _ _ _ _ _ hb]; first | rfl | simp)
                (Below.setCell (p := ⟨g, 2, none⟩) (Below.setCell (p := ⟨g, 1, none⟩) (Go.below_drewN (Below.refl _ _) _) hBg _) hBg _)
                (by
                  have e0 : (wc.drewN nq).heap[g]? = wc.heap[g]? := by first | rfl | simp
                  rw [blk_set (blk_set (e0.trans HBG.out) _)]; rfl)
              exact ⟨by rw [hret]; rfl, ow1, nv1, _, by rw [HST.out]; exact hW.1, HC10.out.trans hW.2⟩
            · have hst : m.step = { m with now := addAll m.now r, old := m.old.set X [], next := X + 1 } := by
                unfold Dm.step
                rw [if_neg ho0, hrr, if_neg (by rw [← HX.out, ← HO.out]; exact he), ← HX.out]
              have HST := Lib.hid hst
              have hd : decide (((X + 1 : Nat) : Int) = (O : Int)) = false := decide_eq_false (by omega)
              have hbe : (((X + 1 : Nat) : Int) == (O : Int)) = false := by simp; omega
              clear hb10 y2 hst hrr ho0 hOL HDN y0 y3 f0 f3
              go_upto_region 11 with fail
              go_quiet (fail)
              go_wp2
              go_ret
              exact ⟨by rw [hret]; rfl, ow1, nv1, _, by rw [HST.out]; exact HD10.out.below (Go.below_drewN (Below.refl _ _) _), HC10.out.trans (Chg.of_below (Go.below_drewN (Below.refl _ _) _) (by omega))⟩
theorem info80 : (Tryd.prog.info? 80).map (fun i => (i.zero, i.size, i.bytes)) = some (some (.agg #[.string ⟨#[]⟩, (.int .i64 0)]), 2, 24) := by kernel_rfl
/-- dict.Step -/
theorem stepI_is (B g gn go K : Nat) (ow : Ow) (m : Dm) (nv ov : List Value) (w : World) (h : DR w B 75 81 80 g ow m gn go nv ov) (hi : Inv K m) (hK : K ≤ 1000000000) (hh : Hv w) (hB0 : 0 < B) :
    Calls Tryd.prog 18 #[.pointer (some ⟨g, 0, none⟩)] w fun e w' => e = .returned (.bool (!(m.old.length == 0))) ∧ ∃ ow' nv' ov', DR w' B 75 81 80 g ow' m.step gn go nv' ov' ∧ Chg B g ow ow' w w' := by
  have hBw : B ≤ w.heap.size := by have h1 := h.base; have h2 := lt_of_blk h.blk; omega
  obtain ⟨O, hO⟩ : ∃ O, O = m.old.length := ⟨_, rfl⟩
  obtain ⟨q0, q1, q2, q3⟩ := cells4 h.blk
  rw [← hO] at q1 ⊢
  rcases Nat.eq_zero_or_pos O with h0 | h0
  · subst h0
    have hst : m.step = m := by unfold Dm.step; rw [if_pos hO.symm]
    rw [hst]
    have HD := Lib.hid h
    have q1' : w.cell? ⟨g, 1, none⟩ = some (.slice none 0 0) := q1
    clear h hi hh q0 q1 q2 q3 hO hst
    go_enter Tryd.func18, Tryd.ntmps18
    go_wp2
    go_ret
    exact ⟨rfl, ow, nv, ov, HD.out.below (by ((repeat (first | exact Below.refl _ _ | (refine Below.drew ?_) | (refine Go.below_drewN ?_ _) | (refine Below.alloc ?_ (by first | (simp; done) | omega | (simp; omega)) _) | (refine Below.setCell ?_ (by first | (simp; done) | omega | (simp; omega)) _) | (refine Below.trans ?_ (Below.mono (by assumption) (by first | (simp; done) | omega | (simp; omega)))))); done)), Chg.of_below (by ((repeat (first | exact Below.refl _ _ | (refine Below.drew ?_) | (refine Go.below_drewN ?_ _) | (refine Below.alloc ?_ (by first | (simp; done) | omega | (simp; omega)) _) | (refine Below.setCell ?_ (by first | (simp; done) | omega | (simp; omega)) _) | (refine Below.trans ?_ (Below.mono (by assumption) (by first | (simp; done) | omega | (simp; omega)))))); done)) hBw⟩
  · have hnx : m.next < O := by rw [hO]; exact hi.nx (fun e => by rw [e] at hO; simp at hO; omega)
    have hne : m.old ≠ [] := fun e => by rw [e] at hO; simp at hO; omega
    rw [slV_pos h0] at q1
    obtain ⟨r, hr⟩ : ∃ r, r = m.old.getD m.next [] := ⟨_, rfl⟩
    have hrx : m.old[m.next]? = some r := by rw [hr, List.getD_eq_getElem?_getD, List.getElem?_eq_getElem (by omega)]; rfl
    obtain ⟨A, c, q4, hov, -, -, -⟩ := (h.old hne).1.room hrx
    obtain ⟨L, hL⟩ : ∃ L, L = r.length := ⟨_, rfl⟩
    rw [← hL] at q4
    have HD := Lib.hid h
    have HI := Lib.hid hi
    have HH := Lib.hid hh
    have HL := Lib.hid hL
    have HO := Lib.hid hO
    have HR := Lib.hid hrx
    have HOV := Lib.hid hov
    have HNE := Lib.hid hne
    have hLK : L ≤ 1000000000 := by
      have h1 := mem_len r (List.mem_of_getElem? hrx)
      have h2 := hi.count
      have h3 := hi.mK
      unfold Dm.all at h2; rw [List.length_append] at h2
      omega
    obtain ⟨X, hX⟩ : ∃ X, X = m.next := ⟨_, rfl⟩
    rw [← hX] at q2 q4 hnx
    have hX1 : (X : Int) < (O : Int) := by omega
    have hX2 : (X : Int) ≤ (O : Int) := by omega
    have hX3 : (0 : Int) ≤ (X : Int) := by omega
    have hOb : O ≤ 1000000000000 := by have := hi.oK; omega
    have hb0 : ((O : Int) == 0) = false := by simp; omega
    have hd0 : decide ((O : Int) = 0) = false := by simp; omega
    have HX := Lib.hid hX
    clear h hi hh hr hrx q0 q3 hO hL hX hov hne
    go_enter Tryd.func18, Tryd.ntmps18
    go_upto_region 3 with fail
    go_quiet (fail)
    go_wp2_with fail
    go_loopw [23] (fun s23 wr => ∃ (i : Nat) (ow1 : Ow) (nv1 : List Value), i ≤ L ∧ s23 = .int .i64 i ∧ RowKit.Hid (DR wr B 75 81 80 g ow1 { m with now := addAll m.now (r.take i) } gn go nv1 ov) ∧ RowKit.Hid (Chg B g ow ow1 w wr)) (fun s23 _ => L - (intOf s23).toNat)
    case atStart => exact ⟨0, ow, nv, Nat.zero_le _, rfl, Lib.hid (HD.out.below (by ((repeat (first | exact Below.refl _ _ | (refine Below.drew ?_) | (refine Go.below_drewN ?_ _) | (refine Below.alloc ?_ (by first | (simp; done) | omega | (simp; omega)) _) | (refine Below.setCell ?_ (by first | (simp; done) | omega | (simp; omega)) _) | (refine Below.trans ?_ (Below.mono (by assumption) (by first | (simp; done) | omega | (simp; omega)))))); done))), Lib.hid (Chg.of_below (by ((repeat (first | exact Below.refl _ _ | (refine Below.drew ?_) | (refine Go.below_drewN ?_ _) | (refine Below.alloc ?_ (by first | (simp; done) | omega | (simp; omega)) _) | (refine Below.setCell ?_ (by first | (simp; done) | omega | (simp; omega)) _) | (refine Below.trans ?_ (Below.mono (by assumption) (by first | (simp; done) | omega | (simp; omega)))))); done)) hBw)⟩
    case round =>
      obtain ⟨i, ow1, nv1, hil, rfl, HDR, HC⟩ := hrel
      obtain ⟨N, hN⟩ : ∃ N, N = m.now.length := ⟨_, rfl⟩
      have hN2 : (addAll m.now (r.take i)).length = N := by rw [addAll_len, hN]
      have hn4 : 4 ≤ N := by rw [hN]; exact HI.out.n4
      have hnK : N ≤ 1000000000000 := by have := HI.out.nK; omega
      have hzr := HC.out.below.size
      by_cases hlt : i < L
      · have hlt2 := Lib.hid (show i < r.length by rw [← HL.out]; exact hlt)
        have hrd := (HDR.out.old HNE.out).1.rd HR.out HOV.out
        obtain ⟨b1, o1, rfl⟩ := hrd.addr (by have := hlt2.out; omega)
        obtain ⟨g0, g1⟩ := hrd.cell hlt2.out
        obtain ⟨q0, -, -, -⟩ := cells4 HDR.out.blk
        dsimp only at q0
        rw [hN2] at q0
        have hxr := List.getElem_mem hlt2.out
        have HT := Lib.hid (addAll_take (l := m.now) hlt2.out)
        have hone := HI.out.one _ (List.mem_append_right _ (List.mem_flatten.2 ⟨r, List.mem_of_getElem? HR.out, hxr⟩))
        generalize r[i]'hlt2.out = x at g0 g1 hone HT
        obtain ⟨n, u⟩ := x
        dsimp only at g0 g1 hone HT
        obtain ⟨k, hk⟩ : ∃ k, k = hsh n % N := ⟨_, rfl⟩
        have hkN : k < N := by rw [hk]; exact Nat.mod_lt _ (by omega)
        obtain ⟨hu1, hsz⟩ := hone
        have HRM := Lib.hid (fun (wx : World) (hb : Below wr.heap.size wr wx) => (by rw [hk]; exact room_is n N wx (by unfold maxLen at hsz; omega) (by omega) hnK ((HH.out.keep HC.out.below hB0).below hb) : Calls Tryd.prog 32 #[.string n, .int .i64 (N : Int)] wx fun e w' => e = .returned (.int .i64 (k : Int)) ∧ Below wx.heap.size wx w'))
        have HNN := Lib.hid hN2
        have HKK := Lib.hid hk
        have HN1 := Lib.hid hN
        have HU1 := Lib.hid hu1
        clear hrd hxr hN hN2 hk
        have kst := st_new Tryd.prog wr n u (.int .i64 0) hu1 80
        go_upto_region 6 with fail
        obtain ⟨wa, hwa⟩ : ∃ x, x = wr.alloc (.cells #[.string n, u] 80) := ⟨_, rfl⟩
        have HN := Lib.hid (new1 wr #[.string n, u] 80)
        have hz1 := alloc_sz wr (.cells #[.string n, u] 80)
        rw [← hwa] at HN hz1 ⊢
        clear hwa kst g0 g1 hu1 hsz q2 q4 q1
        obtain ⟨z0, z1⟩ := cells2 HN.out.1
        have r0 := cell_below HN.out.2 q0
        have hgl := lt_of_cell q0
        have hga : g < wa.heap.size := by dsimp only at hgl; omega
        have hna : wr.heap.size < wa.heap.size := by omega
        go_region_held3 (fun w' => w'.cell? ⟨g, 0, none⟩ = some (.slice (some ⟨gn, 0, none⟩) N N) ∧ w'.cell? ⟨wr.heap.size, 0, none⟩ = some (.string n) ∧ Below wa.heap.size wa w')
          (first | exact ⟨u0, u1, hS1⟩ | (refine ⟨by simpa [go_sem] using r0, by simpa [go_sem] using z0, (by ((repeat (first | exact Below.refl _ _ | (refine Below.drew ?_) | (refine Go.below_drewN ?_ _) | (refine Below.alloc ?_ (by first | (simp; done) | omega | (simp; omega)) _) | (refine Below.setCell ?_ (by first | (simp; done) | omega | (simp; omega)) _) | (refine Below.trans ?_ (Below.mono (by assumption) (by first | (simp; done) | omega | (simp; omega)))))); done))⟩))
          (first
            | (go_at_call 32; refine Calls.mono (HRM.out _ HN.out.2.drew) ?_; rintro e w1 ⟨rfl, hb1⟩; have hS1 : RowKit.Below wa.heap.size wa w1 := (RowKit.Below.refl _ _).drew.trans hb1; have u0 := cell_below hS1 r0; have u1 := cell_below hS1 z0))
        have hW1 : Below wr.heap.size wr w1 := HN.out.2.trans (hS1.mono HN.out.2.size)
        have HD1 := Lib.hid (HDR.out.below hW1)
        have HW1 := Lib.hid hW1
        have HX1 := Lib.hid (keep_blk hS1 HN.out.1)
        have hz3 := hS1.size
        have hlk : (addAll m.now (r.take i))[k]? = some (rm (addAll m.now (r.take i)) n) := by
          have := rm_at (l := addAll m.now (r.take i)) n (by rw [HNN.out]; omega)
          rw [HNN.out, ← HKK.out] at this; exact this
        have hln : (rm (addAll m.now (r.take i)) n).length ≤ 2000000000 := by
          have h1 := rm_len (addAll m.now (r.take i)) n
          have h2 := (addAll_perm (r.take i) (l := m.now) (by have := HI.out.n4; omega)).length_eq
          have h3 := HI.out.count
          have h4 := HI.out.mK
          unfold Dm.all at h3
          rw [List.length_append] at h2 h3
          rw [List.length_take] at h2
          omega
        have HLK := Lib.hid hlk
        obtain ⟨A2, c2, q5, hv2, -, how, htg⟩ := HD1.out.now.room hlk
        have q6 := of_blk_free HD1.out.now.blk k
        obtain ⟨q7, -, -, -⟩ := cells4 HD1.out.blk
        dsimp only at q7
        rw [HNN.out] at q7
        have HV2 := Lib.hid hv2
        have HOW := Lib.hid how
        have hne1 : (Value.slice A2 (rm (addAll m.now (r.take i)) n).length c2).ownBlock ≠ some g := fun e => by have t1 := htg g e; rw [HD1.out.tag] at t1; simp at t1
        have hne2 : (Value.slice A2 (rm (addAll m.now (r.take i)) n).length c2).ownBlock ≠ some gn := fun e => by have t1 := htg gn e; rw [HD1.out.now.tag] at t1; simp at t1
        have hne3 : (Value.slice A2 (rm (addAll m.now (r.take i)) n).length c2).ownBlock ≠ some wr.heap.size := fun e => by
          obtain ⟨A3, c3, -, e3, -, e4, -⟩ := HDR.out.now.room hlk
          rw [hv2] at e3; injection e3 with e3; rw [e3] at e
          have := (e4.lt _ e).2; omega
        obtain ⟨y0, y1⟩ := cells2 HX1.out
        have hgl1 : g < w1.heap.size := lt_of_blk HD1.out.blk
        have hgl2 : gn < w1.heap.size := lt_of_blk HD1.out.now.blk
        have hgl3 : wr.heap.size < w1.heap.size := lt_of_blk HX1.out
        have HGB := Lib.hid HD1.out.blk
        have HNB := Lib.hid HD1.out.now.blk
        obtain ⟨l2, hl2⟩ : ∃ l, l = (rm (addAll m.now (r.take i)) n).length := ⟨_, rfl⟩
        rw [← hl2] at hne1 hne2 hne3 q5 HV2 HOW hln
        have HL2 := Lib.hid hl2
        clear hlk hv2 how htg hl2 u0 u1 hb1 z0 z1 r0 q0
        obtain ⟨i0, hi0, hz0, hzz1, hz2⟩ := info_parts info80
        have HU2 := Lib.hid (show ∀ x ∈ [Value.string n, u], x.oneCell' = true from fun x hx => by
          simp only [List.mem_cons, List.not_mem_nil, or_false] at hx
          rcases hx with rfl | rfl
          · rfl
          · exact HU1.out)
        have hgg : g ≠ gn := fun e => by have t1 := HD1.out.tag; rw [e, HD1.out.now.tag] at t1; simp at t1
        have hgw : wr.heap.size ≠ gn := by have := lt_of_blk HDR.out.now.blk; omega
        have hcv := cellv_eq q5
        go_upto_region 7 with fail
        have HADD := Lib.hid (fun (w2 : World) (gg cap : Nat) (W : World) (hown : w2.ownsRow B 80 2 (.slice (some ⟨gg, 0, none⟩) (l2 + 1) cap) (l2 + 1) (ics (rm (addAll m.now (r.take i)) n) ++ [.string n, u])) (hgrow : W.grownBy w2 (Value.slice A2 l2 c2).ownBlock) (hBW : Below w1.heap.size w1 W) (hat : (Value.slice A2 l2 c2).ownBlock = some gg ∨ gg = w1.heap.size + 1) =>
          DR.add (v1 := .slice (some ⟨gg, 0, none⟩) (l2 + 1) cap) (l2 := rm (addAll m.now (r.take i)) n ++ [(n, u)]) HD1.out HLK.out HV2.out
            (by rw [List.length_append, ← HL2.out, ics_app]; exact hown)
            (Below.grown (hBW.mono (by have := HD1.out.base; have := lt_of_blk HD1.out.blk; omega)) hgrow (by have := hBW.size; have := HD1.out.base; have := lt_of_blk HD1.out.blk; omega) (fun q hq => (HOW.out.lt q hq).1))
            (fun q hq hne => (hgrow.block q (by have := hBW.size; omega) hne).trans (hBW.block q hq))
            (by rcases hat with e | e
                · exact .inl e.symm
                · exact .inr fun q hq => (by have e2 : gg = q := Option.some.inj hq; omega)))
        refine wp_region_noPanic ?_
        refine wp_region_held_drew (S := (fun w' => w'.cell? ⟨g, 0, none⟩ = some (.slice (some ⟨gn, 0, none⟩) N N) ∧ w'.cell? ⟨wr.heap.size, 0, none⟩ = some (.string n) ∧ w'.cell? ⟨wr.heap.size, 1, none⟩ = some u)) (by kernel_rfl) ?_ (fun hHeld => ?_)
        · (try dsimp only); (first | exact ⟨s0, s2, s3⟩ | exact ⟨cell_off s0 hgg, cell_off s2 hgw, cell_off s3 hgw⟩ | exact ⟨q7, y0, y1⟩ | (go_split_ands; refine ⟨by go_keep, by go_keep, by go_keep⟩))
        refine wpAnyH_take (i := 0) (v := ?v1) rfl (by kernel_rfl) (by kernel_rfl) (by kernel_rfl) (fun _ _ _ h => h) (Or.inl ⟨by rfl, ?hy1⟩) (by assumption) ?rest1
        case hy1 => (intro w hSw; (try dsimp only at hSw); go_simp <;> (with_reducible rfl))
        try simp only [Act.put, List.setIfInBounds_toArray, List.set_cons_zero, List.set_cons_succ]
        refine wpAnyH_take (i := 1) (v := ?v2) rfl (by kernel_rfl) (by kernel_rfl) (by kernel_rfl) (fun _ _ _ h => h) (Or.inl ⟨by rfl, ?hy2⟩) (by assumption) ?rest2
        case hy2 => (intro w hSw; (try dsimp only at hSw); go_simp <;> (with_reducible rfl))
        try simp only [Act.put, List.setIfInBounds_toArray, List.set_cons_zero, List.set_cons_succ]
        refine wpAnyH_take (i := 2) (v := ?v3) rfl (by kernel_rfl) (by kernel_rfl) (by kernel_rfl) (fun _ _ _ h => h) (Or.inl ⟨by rfl, ?hy3⟩) (by assumption) ?rest3
        case hy3 => (intro w hSw; (try dsimp only at hSw); go_simp <;> (with_reducible rfl))
        try simp only [Act.put, List.setIfInBounds_toArray, List.set_cons_zero, List.set_cons_succ]
        refine wpAnyH_take (i := 3) (v := ?v4) rfl (by kernel_rfl) (by kernel_rfl) (by kernel_rfl) (fun _ _ _ h => h) (Or.inl ⟨by rfl, ?hy4⟩) (by assumption) ?rest4
        case hy4 => (intro w hSw; (try dsimp only at hSw); go_simp <;> (with_reducible rfl))
        try simp only [Act.put, List.setIfInBounds_toArray, List.set_cons_zero, List.set_cons_succ]
        refine wpAnyH_take (i := 4) (v := ?v5) rfl (by kernel_rfl) (by kernel_rfl) (by kernel_rfl) (fun _ _ _ h => h) (Or.inl ⟨by rfl, ?hy5⟩) (by assumption) ?rest5
        case hy5 => (intro w hSw; (try dsimp only at hSw); go_simp <;> (with_reducible rfl))
        try simp only [Act.put, List.setIfInBounds_toArray, List.set_cons_zero, List.set_cons_succ]
        refine wpAnyH_take (i := 5) (v := ?v6) rfl (by kernel_rfl) (by kernel_rfl) (by kernel_rfl) (fun _ _ _ h => h) (Or.inl ⟨by rfl, ?hy6⟩) (by assumption) ?rest6
        case hy6 => (intro w hSw; (try dsimp only at hSw); go_simp <;> (with_reducible rfl))
        try simp only [Act.put, List.setIfInBounds_toArray, List.set_cons_zero, List.set_cons_succ]
        refine wpAnyH_take (i := 6) (v := ?v7) rfl (by kernel_rfl) (by kernel_rfl) (by kernel_rfl) (fun _ _ _ h => h) (Or.inl ⟨by rfl, ?hy7⟩) (by assumption) ?rest7
        case hy7 => (intro w hSw; (try dsimp only at hSw); go_simp <;> (with_reducible rfl))
        try simp only [Act.put, List.setIfInBounds_toArray, List.set_cons_zero, List.set_cons_succ]
        refine wpAnyH_take (i := 7) (v := ?v8) rfl (by kernel_rfl) (by kernel_rfl) (by kernel_rfl) (fun _ _ _ h => h) (Or.inl ⟨by rfl, ?hy8⟩) (by assumption) ?rest8
        case hy8 => (intro w hSw; (try dsimp only at hSw); go_simp <;> (with_reducible rfl))
        try simp only [Act.put, List.setIfInBounds_toArray, List.set_cons_zero, List.set_cons_succ]
        refine wpAnyH_take (i := 8) (v := ?v9) rfl (by kernel_rfl) (by kernel_rfl) (by kernel_rfl) (fun _ _ _ h => h) (Or.inl ⟨by rfl, ?hy9⟩) (by assumption) ?rest9
        case hy9 => (intro w hSw; (try dsimp only at hSw); go_simp <;> (with_reducible rfl))
        try simp only [Act.put, List.setIfInBounds_toArray, List.set_cons_zero, List.set_cons_succ]
        refine wpAnyH_take (i := 9) (v := ?v10) rfl (by kernel_rfl) (by kernel_rfl) (by kernel_rfl) (fun _ _ _ h => h) (Or.inl ⟨by rfl, ?hy10⟩) (by assumption) ?rest10
        case hy10 => (intro w hSw; (try dsimp only at hSw); go_simp <;> (with_reducible rfl))
        try simp only [Act.put, List.setIfInBounds_toArray, List.set_cons_zero, List.set_cons_succ]
        refine wpAnyH_take (i := 10) (v := ?v11) rfl (by kernel_rfl) (by kernel_rfl) (by kernel_rfl) (fun _ _ _ h => h) (Or.inl ⟨by rfl, ?hy11⟩) (by assumption) ?rest11
        case hy11 => (intro w hSw; (try dsimp only at hSw); go_simp <;> (with_reducible rfl))
        try simp only [Act.put, List.setIfInBounds_toArray, List.set_cons_zero, List.set_cons_succ]
        refine wpAnyH_take (i := 12) (v := ?v12) rfl (by kernel_rfl) (by kernel_rfl) (by kernel_rfl) (fun _ _ _ h => h) (Or.inl ⟨by rfl, ?hy12⟩) (by assumption) ?rest12
        case hy12 => (intro w hSw; (try dsimp only at hSw); go_simp <;> (with_reducible rfl))
        try simp only [Act.put, List.setIfInBounds_toArray, List.set_cons_zero, List.set_cons_succ]
        refine wpAnyH_ready (rs := [11, 13]) (by kernel_rfl) (by simp) ?_
        refine AllReadyH.cons rfl (fun K hK => ?_) ?_
        · go_simp
          refine hK.out _ _ ?_ (fun hHeld => ?_)
          · (try dsimp only); (first | exact ⟨s0, s2, s3⟩ | exact ⟨cell_off s0 hgg, cell_off s2 hgw, cell_off s3 hgw⟩ | exact ⟨q7, y0, y1⟩ | (go_split_ands; refine ⟨by go_keep, by go_keep, by go_keep⟩))
          clear hK K
          try simp only [Act.put, List.setIfInBounds_toArray, List.set_cons_zero, List.set_cons_succ]
          refine wpAnyH_ready (rs := [13]) (by kernel_rfl) (by simp) ?_
          refine AllReadyH.cons rfl (fun K hK => ?_) ?_
          · go_simp
            refine hK.out _ _ ?_ (fun hHeld => ?_)
            · (try dsimp only); (first | exact ⟨s0, s2, s3⟩ | exact ⟨cell_off s0 hgg, cell_off s2 hgw, cell_off s3 hgw⟩ | exact ⟨q7, y0, y1⟩ | (go_split_ands; refine ⟨by go_keep, by go_keep, by go_keep⟩))
            clear hK K
            try simp only [Act.put, List.setIfInBounds_toArray, List.set_cons_zero, List.set_cons_succ]
            refine wpAnyH_ready (rs := [14]) (by kernel_rfl) (by simp) ?_
            refine AllReadyH.cons rfl (fun K hK => ?_) ?_
            · (refine step_append_lies _ (by rfl) _ _ _ (by rfl) B 80 i0 _ 2 24 Tryd.underlying81 hi0 hz0 hzz1 hz2 rfl (by omega) (.slice A2 l2 c2) l2 _ (by rfl) (by first | exact HOW.out.alloc _ | exact (HOW.out.alloc _).drew) ⟨w1.heap.size, 0, none⟩ 1 1 [.string n, u] (by rfl) (by rfl) (World.news_of_block (cs := #[.string n, u]) (t := 80) (fr := (0, 0)) (heap_alloc_new w1 _)) HU2.out (by omega) (by unfold maxLen; omega) (by omega) (by simp; omega) (w1.heap.size + 1) (by simp) ?_; intro gg cap w2 hown1 hgrow hat hlt9; have HQ2 := Lib.hid (HADD.out w2 gg cap _ hown1 hgrow (by ((repeat (first | exact Below.refl _ _ | (refine Below.drew ?_) | (refine Go.below_drewN ?_ _) | (refine Below.alloc ?_ (by first | (simp; done) | omega | (simp; omega)) _) | (refine Below.setCell ?_ (by first | (simp; done) | omega | (simp; omega)) _) | (refine Below.trans ?_ (Below.mono (by assumption) (by first | (simp; done) | omega | (simp; omega)))))); done)) hat); have hN2 : w2.heap[gn]? = some (.cells nv1.toArray 81 (0, 0)) := (hgrow.block gn (by simp; omega) (fun e => hne2 e.symm)).trans (by first | exact blk_new HNB.out _ | simpa using HNB.out); have s1 := (of_blk hN2 k).trans ((of_blk HNB.out k).symm.trans q5); have s4 := of_blk_free hN2 k; have hG2 := (hgrow.block g (by simp; omega) (fun e => hne1 e.symm)).trans (by first | exact blk_new HGB.out _ | simpa using HGB.out); have s0 := (cells4 hG2).1.trans ((cells4 HGB.out).1.symm.trans q7); have hX2 := (hgrow.block wr.heap.size (by simp; omega) (fun e => hne3 e.symm)).trans (by first | exact blk_new HX1.out _ | simpa using HX1.out); obtain ⟨s2, s3⟩ := cells2 hX2; clear hown1 hgrow hat hG2 hN2 hX2)
              refine hK.out _ _ ?_ (fun hHeld => ?_)
              · (try dsimp only); (first | exact ⟨s0, s2, s3⟩ | exact ⟨cell_off s0 hgg, cell_off s2 hgw, cell_off s3 hgw⟩ | exact ⟨q7, y0, y1⟩ | (go_split_ands; refine ⟨by go_keep, by go_keep, by go_keep⟩))
              clear hK K
              try simp only [Act.put, List.setIfInBounds_toArray, List.set_cons_zero, List.set_cons_succ]
              refine wpAnyH_take (i := 15) (v := ?v13) rfl (by kernel_rfl) (by kernel_rfl) (by kernel_rfl) (fun _ _ _ h => h) (Or.inl ⟨by rfl, ?hy13⟩) (by assumption) ?rest13
              case hy13 => (intro w hSw; (try dsimp only at hSw); go_simp <;> (with_reducible rfl))
              try simp only [Act.put, List.setIfInBounds_toArray, List.set_cons_zero, List.set_cons_succ]
              refine wpAnyH_ready (rs := [16]) (by kernel_rfl) (by simp) ?_
              refine AllReadyH.cons rfl (fun K hK => ?_) ?_
              · go_simp
                refine hK.out _ _ ?_ (fun hHeld => ?_)
                · (try dsimp only); (first | exact ⟨s0, s2, s3⟩ | exact ⟨cell_off s0 hgg, cell_off s2 hgw, cell_off s3 hgw⟩ | exact ⟨q7, y0, y1⟩ | (go_split_ands; refine ⟨by go_keep, by go_keep, by go_keep⟩))
                clear hK K
                try simp only [Act.put, List.setIfInBounds_toArray, List.set_cons_zero, List.set_cons_succ]
                refine wpAnyH_done (by kernel_rfl) ?_ _
                refine NoPanic.normal ?_
                obtain ⟨ow2, nv2, HD2, HC2⟩ : ∃ ow2 nv2, DR (w2.setCell ⟨gn, k, none⟩ (.slice (some ⟨gg, 0, none⟩) (l2 + 1) cap)) B 75 81 80 g ow2 { m with now := addAll m.now (r.take (i + 1)) } gn go nv2 ov ∧ Chg B g ow1 ow2 w1 (w2.setCell ⟨gn, k, none⟩ (.slice (some ⟨gg, 0, none⟩) (l2 + 1) cap)) := by
                  obtain ⟨ow2, h1, h2⟩ := HQ2.out
                  refine ⟨ow2, nv1.set k (.slice (some ⟨gg, 0, none⟩) (l2 + 1) cap), ?_, h2⟩
                  have e : (addAll m.now (r.take i)).set k (rm (addAll m.now (r.take i)) n ++ [(n, u)]) = addAll m.now (r.take (i + 1)) := by
                    rw [HT.out]; unfold addR; dsimp only; rw [HNN.out, ← HKK.out]
                  rw [← e]; exact h1
                have HE2 := Lib.hid HD2
                have HE3 := Lib.hid ((HC.out.trans (Chg.of_below HW1.out (by have := HC.out.below.size; omega))).trans HC2)
                clear HQ2 HD2 HC2 HADD
                go_wp2_with fail
                exact ⟨⟨i + 1, ow2, nv2, by omega, by go_num, HE2, HE3⟩, by simp [intOf]; omega⟩
              exact AllReadyH.nil
            exact AllReadyH.nil
          exact AllReadyH.nil
        refine AllReadyH.cons rfl (fun K hK => ?_) ?_
        · go_simp
          refine hK.out _ _ ?_ (fun hHeld => ?_)
          · (try dsimp only); (first | exact ⟨s0, s2, s3⟩ | exact ⟨cell_off s0 hgg, cell_off s2 hgw, cell_off s3 hgw⟩ | exact ⟨q7, y0, y1⟩ | (go_split_ands; refine ⟨by go_keep, by go_keep, by go_keep⟩))
          clear hK K
          try simp only [Act.put, List.setIfInBounds_toArray, List.set_cons_zero, List.set_cons_succ]
          refine wpAnyH_ready (rs := [11]) (by kernel_rfl) (by simp) ?_
          refine AllReadyH.cons rfl (fun K hK => ?_) ?_
          · go_simp
            refine hK.out _ _ ?_ (fun hHeld => ?_)
            · (try dsimp only); (first | exact ⟨s0, s2, s3⟩ | exact ⟨cell_off s0 hgg, cell_off s2 hgw, cell_off s3 hgw⟩ | exact ⟨q7, y0, y1⟩ | (go_split_ands; refine ⟨by go_keep, by go_keep, by go_keep⟩))
            clear hK K
            try simp only [Act.put, List.setIfInBounds_toArray, List.set_cons_zero, List.set_cons_succ]
            refine wpAnyH_ready (rs := [14]) (by kernel_rfl) (by simp) ?_
            refine AllReadyH.cons rfl (fun K hK => ?_) ?_
            · (refine step_append_lies _ (by rfl) _ _ _ (by rfl) B 80 i0 _ 2 24 Tryd.underlying81 hi0 hz0 hzz1 hz2 rfl (by omega) (.slice A2 l2 c2) l2 _ (by rfl) (by first | exact HOW.out.alloc _ | exact (HOW.out.alloc _).drew) ⟨w1.heap.size, 0, none⟩ 1 1 [.string n, u] (by rfl) (by rfl) (World.news_of_block (cs := #[.string n, u]) (t := 80) (fr := (0, 0)) (heap_alloc_new w1 _)) HU2.out (by omega) (by unfold maxLen; omega) (by omega) (by simp; omega) (w1.heap.size + 1) (by simp) ?_; intro gg cap w2 hown1 hgrow hat hlt9; have HQ2 := Lib.hid (HADD.out w2 gg cap _ hown1 hgrow (by ((repeat (first | exact Below.refl _ _ | (refine Below.drew ?_) | (refine Go.below_drewN ?_ _) | (refine Below.alloc ?_ (by first | (simp; done) | omega | (simp; omega)) _) | (refine Below.setCell ?_ (by first | (simp; done) | omega | (simp; omega)) _) | (refine Below.trans ?_ (Below.mono (by assumption) (by first | (simp; done) | omega | (simp; omega)))))); done)) hat); have hN2 : w2.heap[gn]? = some (.cells nv1.toArray 81 (0, 0)) := (hgrow.block gn (by simp; omega) (fun e => hne2 e.symm)).trans (by first | exact blk_new HNB.out _ | simpa using HNB.out); have s1 := (of_blk hN2 k).trans ((of_blk HNB.out k).symm.trans q5); have s4 := of_blk_free hN2 k; have hG2 := (hgrow.block g (by simp; omega) (fun e => hne1 e.symm)).trans (by first | exact blk_new HGB.out _ | simpa using HGB.out); have s0 := (cells4 hG2).1.trans ((cells4 HGB.out).1.symm.trans q7); have hX2 := (hgrow.block wr.heap.size (by simp; omega) (fun e => hne3 e.symm)).trans (by first | exact blk_new HX1.out _ | simpa using HX1.out); obtain ⟨s2, s3⟩ := cells2 hX2; clear hown1 hgrow hat hG2 hN2 hX2)
              refine hK.out _ _ ?_ (fun hHeld => ?_)
              · (try dsimp only); (first | exact ⟨s0, s2, s3⟩ | exact ⟨cell_off s0 hgg, cell_off s2 hgw, cell_off s3 hgw⟩ | exact ⟨q7, y0, y1⟩ | (go_split_ands; refine ⟨by go_keep, by go_keep, by go_keep⟩))
              clear hK K
              try simp only [Act.put, List.setIfInBounds_toArray, List.set_cons_zero, List.set_cons_succ]
              refine wpAnyH_take (i := 15) (v := ?v14) rfl (by kernel_rfl) (by kernel_rfl) (by kernel_rfl) (fun _ _ _ h => h) (Or.inl ⟨by rfl, ?hy14⟩) (by assumption) ?rest14
              case hy14 => (intro w hSw; (try dsimp only at hSw); go_simp <;> (with_reducible rfl))
              try simp only [Act.put, List.setIfInBounds_toArray, List.set_cons_zero, List.set_cons_succ]
              refine wpAnyH_ready (rs := [16]) (by kernel_rfl) (by simp) ?_
              refine AllReadyH.cons rfl (fun K hK => ?_) ?_
              · go_simp
                refine hK.out _ _ ?_ (fun hHeld => ?_)
                · (try dsimp only); (first | exact ⟨s0, s2, s3⟩ | exact ⟨cell_off s0 hgg, cell_off s2 hgw, cell_off s3 hgw⟩ | exact ⟨q7, y0, y1⟩ | (go_split_ands; refine ⟨by go_keep, by go_keep, by go_keep⟩))
                clear hK K
                try simp only [Act.put, List.setIfInBounds_toArray, List.set_cons_zero, List.set_cons_succ]
                refine wpAnyH_done (by kernel_rfl) ?_ _
                refine NoPanic.normal ?_
                obtain ⟨ow2, nv2, HD2, HC2⟩ : ∃ ow2 nv2, DR (w2.setCell ⟨gn, k, none⟩ (.slice (some ⟨gg, 0, none⟩) (l2 + 1) cap)) B 75 81 80 g ow2 { m with now := addAll m.now (r.take (i + 1)) } gn go nv2 ov ∧ Chg B g ow1 ow2 w1 (w2.setCell ⟨gn, k, none⟩ (.slice (some ⟨gg, 0, none⟩) (l2 + 1) cap)) := by
                  obtain ⟨ow2, h1, h2⟩ := HQ2.out
                  refine ⟨ow2, nv1.set k (.slice (some ⟨gg, 0, none⟩) (l2 + 1) cap), ?_, h2⟩
                  have e : (addAll m.now (r.take i)).set k (rm (addAll m.now (r.take i)) n ++ [(n, u)]) = addAll m.now (r.take (i + 1)) := by
                    rw [HT.out]; unfold addR; dsimp only; rw [HNN.out, ← HKK.out]
                  rw [← e]; exact h1
                have HE2 := Lib.hid HD2
                have HE3 := Lib.hid ((HC.out.trans (Chg.of_below HW1.out (by have := HC.out.below.size; omega))).trans HC2)
                clear HQ2 HD2 HC2 HADD
                go_wp2_with fail
                exact ⟨⟨i + 1, ow2, nv2, by omega, by go_num, HE2, HE3⟩, by simp [intOf]; omega⟩
              exact AllReadyH.nil
            exact AllReadyH.nil
          exact AllReadyH.nil
        exact AllReadyH.nil
      · have hiL : i = L := by omega
        have htk : r.take i = r := List.take_of_length_le (by rw [hiL, ← HL.out]; exact Nat.le_refl _)
        rw [htk] at HDR
        have HDX := Lib.hid HDR.out
        have hOL : ({ m with now := addAll m.now r } : Dm).old.length = O := HO.out.symm
        obtain ⟨-, y1, y2, -⟩ := cells4 HDX.out.blk
        rw [hOL, slV_pos h0] at y1
        have y2' : wr.cell? ⟨g, 2, none⟩ = some (.int .i64 (X : Int)) := by rw [y2, HX.out]
        have y3 := of_blk_free (HDX.out.old HNE.out).1.blk X
        obtain ⟨A9, c9, y4, -, -, -, -⟩ := (HDX.out.old HNE.out).1.room (by rw [HX.out]; exact HR.out : m.old[X]? = some r)
        have hgo : g ≠ go := fun e => by have t1 := HDX.out.tag; rw [e, (HDX.out.old HNE.out).1.tag] at t1; simp at t1
        have HDP := Lib.hid (HDX.out.drop (k := X) (by rw [hOL]; omega))
        have HCX := Lib.hid (HC.out.trans HDP.out.2)
        clear hN hN2 htk hiL y2 hOL
        go_upto_region 9 with fail
        go_cut [23] (fun s23 wx => RowKit.Hid (DR wx B 75 81 80 g ow1 { m with now := addAll m.now r, old := m.old.set X [] } gn go nv1 (ov.set X (.slice none 0 0))) ∧ RowKit.Hid (Chg B g ow ow1 w wx))
        case first =>
          go_region_held3 (fun w' => w'.cell? ⟨g, 1, none⟩ = some (.slice (some ⟨go, 0, none⟩) O O) ∧ w'.cell? ⟨g, 2, none⟩ = some (.int .i64 (X : Int)))
            (first | exact ⟨y1, y2'⟩ | exact ⟨cell_off y1 hgo, cell_off y2' hgo⟩)
            (fail)
          go_wp2_with fail
          go_meet
          exact ⟨Lib.hid (HDP.out.1.below (Below.refl _ _).drew), Lib.hid (HCX.out.trans (Chg.of_below (Below.refl _ _).drew (by rw [set_sz]; omega)))⟩
        case rest =>
          obtain ⟨HD9, HC9⟩ := hcut
          have hz9 := HC9.out.below.size
          have hOL : ({ m with now := addAll m.now r, old := m.old.set X [] } : Dm).old.length = O := by show (m.old.set X []).length = O; rw [List.length_set]; exact HO.out.symm
          have hb9 := HD9.out.blk
          rw [hOL, slV_pos h0, show ({ m with now := addAll m.now r, old := m.old.set X [] } : Dm).next = X from HX.out.symm] at hb9
          have HB9 := Lib.hid hb9
          have hw1 : IntKind.i64.wrap ((X : Int) + 1) = ((X + 1 : Nat) : Int) := wrap_small _ (by omega) (by omega)
          have HS10 := Lib.hid (HD9.out.cells (w1 := wc.setCell ⟨g, 2, none⟩ (.int .i64 ((X + 1 : Nat) : Int))) { m with now := addAll m.now r, old := m.old.set X [], next := X + 1 } rfl (.inl rfl) (fun b hb => heap_set _ _ _ _ _ hb) (Below.setCell (p := ⟨g, 2, none⟩) (Below.refl _ _) HD9.out.base _)
            (by rw [blk_set hb9]; dsimp only; rw [hOL, slV_pos h0]; rfl))
          obtain ⟨y0, y1, y2, y3⟩ := cells4 hb9
          obtain ⟨f0, f1, f2, f3⟩ := frees4 hb9
          clear hb9 hOL HDX HDP HCX HDR HC
          go_upto_region 10 with fail
          go_cut [23] (fun s23 wx => RowKit.Hid (DR wx B 75 81 80 g ow1 { m with now := addAll m.now r, old := m.old.set X [], next := X + 1 } gn go nv1 (ov.set X (.slice none 0 0))) ∧ RowKit.Hid (Chg B g ow ow1 w wx))
          case first =>
            go_wp2_with fail
            go_meet
            first
              | exact ⟨Lib.hid HS10.out.1, Lib.hid (HC9.out.trans HS10.out.2)⟩
              | (rw [hw1]; exact ⟨Lib.hid HS10.out.1, Lib.hid (HC9.out.trans HS10.out.2)⟩)
          case rest =>
            obtain ⟨HD10, HC10⟩ := hcut
            clear HS10 HC9 HB9 HD9 y0 y1 y2 y3 f0 f1 f2 f3
            have hz10 := HC10.out.below.size
            have hBg : B ≤ g := HD10.out.base
            have hret : (!(O == 0)) = true := by simp; omega
            have hOL : (m.old.set X []).length = O := by rw [List.length_set]; exact HO.out.symm
            have hb10 := HD10.out.blk
            rw [show ({ m with now := addAll m.now r, old := m.old.set X [], next := X + 1 } : Dm).old.length = O from hOL, slV_pos h0] at hb10
            obtain ⟨y0, y1, y2, y3⟩ := cells4 hb10
            obtain ⟨f0, f1, f2, f3⟩ := frees4 hb10
            have y2' : wc.cell? ⟨g, 2, none⟩ = some (.int .i64 ((X + 1 : Nat) : Int)) := y2
            have hrr : m.old.getD m.next [] = r := by rw [List.getD_eq_getElem?_getD, HR.out]; rfl
            have ho0 : ¬ m.old.length = 0 := by rw [← HO.out]; omega
            have HDN := Lib.hid (fun (w1 : World) (hb : ∀ b, b ≠ g → w1.heap[b]? = wc.heap[b]?) (hB : Below B wc w1) (hgb : w1.heap[g]? = some (.cells #[.slice (some ⟨gn, 0, none⟩) (addAll m.now r).length (addAll m.now r).length, .slice none 0 0, .int .i64 0, .int .i64 (m.many : Int)] 75 (0, 0))) =>
              HD10.out.cells (w1 := w1) { m with now := addAll m.now r, old := [], next := 0 } rfl (.inr rfl) hb hB hgb)
            by_cases he : X + 1 = O
            · have hst : m.step = { m with now := addAll m.now r, old := [], next := 0 } := by
                unfold Dm.step
                rw [if_neg ho0, hrr, if_pos (by rw [← HX.out, ← HO.out]; exact he)]
              have HST := Lib.hid hst
              have HBG := Lib.hid (show wc.heap[g]? = some (.cells #[.slice (some ⟨gn, 0, none⟩) (addAll m.now r).length (addAll m.now r).length, .slice (some ⟨go, 0, none⟩) O O, .int .i64 ((X + 1 : Nat) : Int), .int .i64 (m.many : Int)] 75 (0, 0)) from hb10)
              have hd : decide (((X + 1 : Nat) : Int) = (O : Int)) = true := decide_eq_true (by omega)
              have hbe : (((X + 1 : Nat) : Int) == (O : Int)) = true := by simp; omega
              clear hb10 y2 hst hrr ho0 hOL HD10 y0 y3 f0 f3
              go_upto_region 11 with fail
              go_quiet (fail)
              go_wp2
              go_ret
              have hW := HDN.out (((wc.drewN nq).setCell ⟨g, 1, none⟩ (.slice none 0 0)).setCell ⟨g, 2, none⟩ (.int .i64 0)) (fun b hb => by rw [heap_set _ _ _ _ _ hb, heap_set _ _ _ _ _ hb]; first | rfl | simp)
                (Below.setCell (p := ⟨g, 2, none⟩) (Below.setCell (p := ⟨g, 1, none⟩) (Go.below_drewN (Below.refl _ _) _) hBg _) hBg _)
                (by
                  have e0 : (wc.drewN nq).heap[g]? = wc.heap[g]? := by first | rfl | simp
                  rw [blk_set (blk_set (e0.trans HBG.out) _)]; rfl)
              exact ⟨by rw [hret]; rfl, ow1, nv1, _, by rw [HST.out]; exact hW.1, HC10.out.trans hW.2⟩
            · have hst : m.step = { m with now := addAll m.now r, old := m.old.set X [], next := X + 1 } := by
                unfold Dm.step
                rw [if_neg ho0, hrr, if_neg (by rw [← HX.out, ← HO.out]; exact he), ← HX.out]
              have HST := Lib.hid hst
              have hd : decide (((X + 1 : Nat) : Int) = (O : Int)) = false := decide_eq_false (by omega)
              have hbe : (((X + 1 : Nat) : Int) == (O : Int)) = false := by simp; omega
              clear hb10 y2 hst hrr ho0 hOL HDN y0 y3 f0 f3
              go_upto_region 11 with fail
              go_quiet (fail)
              go_wp2
              go_ret
              exact ⟨by rw [hret]; rfl, ow1, nv1, _, by rw [HST.out]; exact HD10.out.below (Go.below_drewN (Below.refl _ _) _), HC10.out.trans (Chg.of_below (Go.below_drewN (Below.refl _ _) _) (by omega))⟩
end Go.Proofs.YtfdcacjfngjmdaaDoor.T
