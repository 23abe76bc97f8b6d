import Derived.Deep.DeepCutAuto
import Derived.Laws.OwnMore
import Derived.OwnWalk
import Derived.Lib.AppendStr
import Derived.Lib.SliceRun
import Derived.Lib.SmallJoins
import Derived.IntWalk
import Derived.WalkMore
import Derived.Lib.OthersKept
import Derived.Deep.LoopGhost
import Derived.Deep.RegionLaw
import Derived.Deep.AppendLies
import Derived.Test.YtfdcacjfngjmdaaDoorProg
import Derived.Test.YtfdcacjfngjmdaaDoorMem
import Derived.Test.YtfdcacjfngjmdaaDoorBlk
import Derived.Test.YtfdcacjfngjmdaaDoorAp
import Derived.Test.YtfdcacjfngjmdaaDoorDc
import Derived.WalkKit
import Derived.Outline
import Derived.WalkLawsBesides
import Derived.Deep.QuietTactic
import Derived.BigQuiet
import Derived.Lib.Hide
import Derived.Handy
import Derived.Deep.RegionHeld3
import Derived.Deep.DrawnRows
import Derived.KernelRfl
import Derived.Great.Walk
import Derived.Test.YtfdcacjfngjmdaaDoorOwn
namespace Go.Proofs.YtfdcacjfngjmdaaDoor.T
open Go Go.RowKit Go.Sort Mem Own
set_option maxRecDepth 100000
set_option maxHeartbeats 1000000
set_option linter.unusedVariables false
set_option linter.unusedSimpArgs false

/-- A dict, plainly: its rooms, the elder ones, the room that is taken over next, how many there are. -/
structure Dm where
  now : List (List It)
  old : List (List It)
  next : Nat
  many : Nat
def Dm.all (m : Dm) : List It := m.now.flatten ++ m.old.flatten
def rm (l : List (List It)) (t : ByteArray) : List It := l.getD (hsh t % l.length) []
/-- To whom a block belongs: to the dict g (first g + 1, second 0: its own cells; 1: a table; b + 2: a room of the table b, third: which). -/
abbrev Ow := Nat → Nat × Nat × Nat
def slV (b n : Nat) : Value := if n = 0 then .slice none 0 0 else .slice (some ⟨b, 0, none⟩) n n
theorem slV_pos {b n : Nat} (h : 0 < n) : slV b n = .slice (some ⟨b, 0, none⟩) n n := by unfold slV; rw [if_neg (by omega)]
structure Tab (w : World) (B TR TI g : Nat) (ow : Ow) (b : Nat) (v : List Value) (l : List (List It)) : Prop where
  base : B ≤ b
  tag : ow b = (g + 1, 1, 0)
  blk : w.heap[b]? = some (.cells v.toArray TR (0, 0))
  len : v.length = l.length
  rows : ∀ k x, l[k]? = some x → ∃ u, v[k]? = some u ∧ w.ownsRow B TI 2 u x.length (ics x) ∧ ∀ q, u.ownBlock = some q → ow q = (g + 1, b + 2, k)
structure DR (w : World) (B D TR TI g : Nat) (ow : Ow) (m : Dm) (gn go : Nat) (nv ov : List Value) : Prop where
  base : B ≤ g
  tag : ow g = (g + 1, 0, 0)
  blk : w.heap[g]? = some (.cells #[.slice (some ⟨gn, 0, none⟩) m.now.length m.now.length, slV go m.old.length, .int .i64 (m.next : Int), .int .i64 (m.many : Int)] D (0, 0))
  now : Tab w B TR TI g ow gn nv m.now
  old : m.old ≠ [] → Tab w B TR TI g ow go ov m.old ∧ gn ≠ go
/-- What of the blocks of root r stays. -/
def Kept (ow : Ow) (r : Nat) (w w' : World) : Prop := w.heap.size ≤ w'.heap.size ∧ ∀ b, b < w.heap.size → (ow b).1 = r → w'.heap[b]? = w.heap[b]?
theorem Tab.keep {w w' : World} {B TR TI g : Nat} {ow ow' : Ow} {b : Nat} {v : List Value} {l : List (List It)} (h : Tab w B TR TI g ow b v l) (hk : Kept ow (g + 1) w w') (he : ∀ b, b < w.heap.size → ow' b = ow b) : Tab w' B TR TI g ow' b v l := by
  have hb := lt_of_blk h.blk
  refine ⟨h.base, by rw [he _ hb]; exact h.tag, by rw [hk.2 b hb (by rw [h.tag])]; exact h.blk, h.len, fun k x hx => ?_⟩
  obtain ⟨u, h1, h2, h3⟩ := h.rows k x hx
  refine ⟨u, h1, own_keep h2 fun q hq o ho => ?_, fun q hq => ?_⟩
  · rw [hk.2 q (lt_of_blk ho) (by rw [h3 q hq])]; exact ho
  · rw [he q (h2.lt q hq).2]; exact h3 q hq
theorem DR.keep {w w' : World} {B D TR TI g gn go : Nat} {ow ow' : Ow} {m : Dm} {nv ov : List Value} (h : DR w B D TR TI g ow m gn go nv ov) (hk : Kept ow (g + 1) w w') (he : ∀ b, b < w.heap.size → ow' b = ow b) : DR w' B D TR TI g ow' m gn go nv ov := by
  have hb := lt_of_blk h.blk
  exact ⟨h.base, by rw [he _ hb]; exact h.tag, by rw [hk.2 g hb (by rw [h.tag])]; exact h.blk, h.now.keep hk he, fun ho => ⟨(h.old ho).1.keep hk he, (h.old ho).2⟩⟩
theorem kept_below {w w' : World} (ow : Ow) (r : Nat) (h : Below w.heap.size w w') : Kept ow r w w' := ⟨h.size, fun b hb _ => h.block b hb⟩
theorem DR.below {w w' : World} {B D TR TI g gn go : Nat} {ow : Ow} {m : Dm} {nv ov : List Value} (h : DR w B D TR TI g ow m gn go nv ov) (hb : Below w.heap.size w w') : DR w' B D TR TI g ow m gn go nv ov := h.keep (kept_below _ _ hb) fun _ _ => rfl
/-- A room's cell. -/
theorem Tab.at {w : World} {B TR TI g : Nat} {ow : Ow} {b : Nat} {v : List Value} {l : List (List It)} (h : Tab w B TR TI g ow b v l) (t : ByteArray) (hl : 0 < l.length) :
    ∃ A c, w.cell? ⟨b, hsh t % l.length, none⟩ = some (.slice A (rm l t).length c) ∧ RdI w A (rm l t) := by
  have hk : hsh t % l.length < l.length := Nat.mod_lt _ hl
  have hx : l[hsh t % l.length]? = some (rm l t) := by
    unfold rm
    rw [List.getD_eq_getElem?_getD, List.getElem?_eq_getElem hk]; rfl
  obtain ⟨u, h1, h2, h3⟩ := h.rows _ _ hx
  obtain ⟨A, c, rfl, -, hr, -, -⟩ := own_rdI h2
  refine ⟨A, c, ?_, hr⟩
  rw [of_blk h.blk, ← h1]
  simp
/-- What a dict keeps to: K is the greatest number of names. -/
structure Inv (K : Nat) (m : Dm) : Prop where
  n4 : 4 ≤ m.now.length
  nK : m.now.length ≤ 2 * K + 4
  oK : m.old.length ≤ 2 * K + 4
  mK : m.many ≤ K
  count : m.many = m.all.length
  nx : m.old ≠ [] → m.next < m.old.length
  nx0 : m.old = [] → m.next = 0
  one : ∀ x ∈ m.all, x.2.oneCell' = true ∧ x.1.size ≤ maxLen
  tidyN : ∀ k l, m.now[k]? = some l → ∀ x ∈ l, hsh x.1 % m.now.length = k
  tidyO : ∀ k l, m.old[k]? = some l → ∀ x ∈ l, hsh x.1 % m.old.length = k
  names : (m.all.map fun x => x.1.toList).Nodup
  emp : ∀ k, k < m.next → m.old[k]? = some []
theorem rm_mem {l : List (List It)} {t : ByteArray} (x : It) (h : x ∈ rm l t) : x ∈ l.flatten := by
  unfold rm at h
  rw [List.getD_eq_getElem?_getD] at h
  cases e : l[hsh t % l.length]? with
  | none => rw [e] at h; simp at h
  | some r => rw [e] at h; exact List.mem_flatten.2 ⟨r, List.mem_of_getElem? e, h⟩
theorem mem_len {l : List (List It)} : ∀ r ∈ l, r.length ≤ l.flatten.length := by
  induction l with
  | nil => intro r h; simp at h
  | cons a l ih =>
    intro r h
    rw [List.flatten_cons, List.length_append]
    rcases List.mem_cons.1 h with rfl | h
    · omega
    · have := ih r h; omega
theorem rm_len (l : List (List It)) (t : ByteArray) : (rm l t).length ≤ l.flatten.length := by
  unfold rm
  rw [List.getD_eq_getElem?_getD]
  cases e : l[hsh t % l.length]? with
  | none => simp
  | some r => exact mem_len r (List.mem_of_getElem? e)
theorem Inv.rmN {K : Nat} {m : Dm} (h : Inv K m) (t : ByteArray) : (rm m.now t).length ≤ K ∧ ∀ x ∈ rm m.now t, x.2.oneCell' = true :=
  ⟨by have h1 := rm_len m.now t; have h2 := h.count; have h3 := h.mK; unfold Dm.all at h2; rw [List.length_append] at h2; omega, fun x hx => (h.one x (List.mem_append_left _ (rm_mem x hx))).1⟩
theorem Inv.rmO {K : Nat} {m : Dm} (h : Inv K m) (t : ByteArray) : (rm m.old t).length ≤ K ∧ ∀ x ∈ rm m.old t, x.2.oneCell' = true :=
  ⟨by have h1 := rm_len m.old t; have h2 := h.count; have h3 := h.mK; unfold Dm.all at h2; rw [List.length_append] at h2; omega, fun x hx => (h.one x (List.mem_append_right _ (rm_mem x hx))).1⟩
/-- Where find finds: a table's block, the room, the place in it. -/
def Found (m : Dm) (t : ByteArray) (gn go : Nat) (b k : Nat) (i : Int) : Prop :=
  (b = gn ∧ k = hsh t % m.now.length ∧ i = ixI (rm m.now t) t ∧ (0 ≤ i ∨ m.old.length = 0)) ∨
  (b = go ∧ k = hsh t % m.old.length ∧ i = ixI (rm m.old t) t ∧ 0 < m.old.length ∧ ixI (rm m.now t) t < 0)
/-- dict.find -/
theorem findS_is (B g gn go K : Nat) (ow : Ow) (m : Dm) (nv ov : List Value) (t : ByteArray) (w : World) (h : DR w B 64 70 69 g ow m gn go nv ov) (hi : Inv K m) (hK : K ≤ 1000000000) (ht : t.size ≤ 9223372036854775807) (hh : Hv w) :
    Calls Tryd.prog 31 #[.pointer (some ⟨g, 0, none⟩), .string t] w fun e w' => ∃ b k i, e = .returned (.tuple #[.pointer (some ⟨b, k, none⟩), .int .i64 i]) ∧ Found m t gn go b k i ∧ Below w.heap.size w w' := by
  obtain ⟨N, hN⟩ : ∃ N, N = m.now.length := ⟨_, rfl⟩
  obtain ⟨O, hO⟩ : ∃ O, O = m.old.length := ⟨_, rfl⟩
  obtain ⟨k1, hk1⟩ : ∃ k, k = hsh t % N := ⟨_, rfl⟩
  obtain ⟨k2, hk2⟩ : ∃ k, k = hsh t % O := ⟨_, rfl⟩
  obtain ⟨i1, hi1⟩ : ∃ i, i = ixI (rm m.now t) t := ⟨_, rfl⟩
  obtain ⟨i2, hi2⟩ : ∃ i, i = ixI (rm m.old t) t := ⟨_, rfl⟩
  have hn4 : 4 ≤ N := by rw [hN]; exact hi.n4
  have hnK : N ≤ 1000000000000 := by have := hi.nK; omega
  have hoK : O ≤ 1000000000000 := by have := hi.oK; omega
  have hkN : k1 < N := by rw [hk1]; exact Nat.mod_lt _ (by omega)
  obtain ⟨q0, q1, q2, q3⟩ := cells4 h.blk
  rw [← hN] at q0
  rw [← hO] at q1
  obtain ⟨A1, p1, q4, hR1⟩ := h.now.at t (by omega)
  rw [← hN, ← hk1] at q4
  obtain ⟨L1, hL1⟩ : ∃ L, L = (rm m.now t).length := ⟨_, rfl⟩
  rw [← hL1] at q4
  have hgl := lt_of_blk h.blk
  have hgn := lt_of_blk h.now.blk
  have HI1 := Lib.hid (fun (wx : World) (hb : Below w.heap.size w wx) (n1 : Nat) (hn : wx.heap[n1]? = some (.cells #[.string t] 9 (0, 0))) => (by rw [hL1, hi1]; exact ixfS_is A1 (rm m.now t) p1 n1 t wx (hR1.below hb) (hi.rmN t).2 (by have := (hi.rmN t).1; omega) hn : Calls Tryd.prog 45 #[.slice A1 L1 p1, .func (Fn.func 44) #[] #[.pointer (some ⟨n1, 0, none⟩)]] wx fun e w' => e = .returned (.int .i64 i1) ∧ Below wx.heap.size wx w'))
  have HO := Lib.hid (fun (ho : 0 < O) => (h.old (fun e => by rw [e] at hO; simp at hO; omega)).1.at t (by omega))
  have HI2 := Lib.hid (fun (wx : World) (A2 : Option Addr) (p2 n1 : Nat) (hr : RdI wx A2 (rm m.old t)) (hn : wx.heap[n1]? = some (.cells #[.string t] 9 (0, 0))) => (by rw [hi2]; exact ixfS_is A2 (rm m.old t) p2 n1 t wx hr (hi.rmO t).2 (by have := (hi.rmO t).1; omega) hn : Calls Tryd.prog 45 #[.slice A2 (rm m.old t).length p2, .func (Fn.func 44) #[] #[.pointer (some ⟨n1, 0, none⟩)]] wx fun e w' => e = .returned (.int .i64 i2) ∧ Below wx.heap.size wx w'))
  have HM1 := Lib.hid (fun (wx : World) (hb : Below w.heap.size w wx) => (by rw [hk1]; exact room_is t N wx ht (by omega) hnK (hh.below hb) : Calls Tryd.prog 32 #[.string t, .int .i64 (N : Int)] wx fun e w' => e = .returned (.int .i64 (k1 : Int)) ∧ Below wx.heap.size wx w'))
  have HM2 := Lib.hid (fun (wx : World) (hb : Below w.heap.size w wx) (ho : 0 < O) => (by rw [hk2]; exact room_is t O wx ht ho hoK (hh.below hb) : Calls Tryd.prog 32 #[.string t, .int .i64 (O : Int)] wx fun e w' => e = .returned (.int .i64 (k2 : Int)) ∧ Below wx.heap.size wx w'))
  have HF1 := Lib.hid (show 0 ≤ i1 ∨ O = 0 → Found m t gn go gn k1 i1 from fun h => .inl ⟨rfl, by rw [hk1, hN], hi1, by rw [← hO]; exact h⟩)
  have HF2 := Lib.hid (show 0 < O → i1 < 0 → Found m t gn go go k2 i2 from fun h1 h2 => .inr ⟨rfl, by rw [hk2, hO], hi2, by omega, by rw [← hi1]; exact h2⟩)
  have HK2 := Lib.hid (show 0 < O → k2 < O from fun h => by rw [hk2]; exact Nat.mod_lt _ h)
  have HN := Lib.hid (new1 w #[.string t] 9)
  have hz1 := alloc_sz w (.cells #[.string t] 9)
  have HS := Lib.hid (show 0 < O → slV go O = .slice (some ⟨go, 0, none⟩) O O from fun h => slV_pos h)
  have HS0 := Lib.hid (show O = 0 → slV go O = .slice none 0 0 from fun h => by unfold slV; rw [if_pos h])
  have HOR := Lib.hid hO
  have HKK2 := Lib.hid (show 0 < O → k2 = hsh t % O from fun _ => hk2)
  clear h hi hh hN hO hk1 hk2 hi1 hi2 hL1 hR1 q2 q3 ht
  go_enter Tryd.func31, Tryd.ntmps31
  go_upto_region 2 with fail
  obtain ⟨wa, hwa⟩ : ∃ x, x = w.alloc (.cells #[.string t] 9) := ⟨_, rfl⟩
  rw [← hwa] at HN hz1 ⊢
  clear hwa
  have HNB := Lib.hid (show wa.heap[w.heap.size]? = some (.cells #[.string t] 9 (0, 0)) from HN.out.1)
  have HA := Lib.hid (show Below w.heap.size w wa from HN.out.2)
  clear HN
  have z0 := cells1 HNB.out
  have r0 := cell_below HA.out q0
  have hga : g < wa.heap.size := by omega
  have hna : w.heap.size < wa.heap.size := by omega
  go_region_held3 (fun w' => w'.cell? ⟨g, 0, none⟩ = some (.slice (some ⟨gn, 0, none⟩) N N) ∧ w'.cell? ⟨w.heap.size, 0, none⟩ = some (.string t) ∧ Below wa.heap.size wa w')
    (first | exact ⟨u0, u1, hS1⟩ | (refine ⟨by simpa [go_sem] using r0, by simpa [go_sem] using z0, (by ((repeat (first | exact Below.refl _ _ | (refine Below.drew ?_) | (refine Go.below_drewN ?_ _) | (refine Below.alloc ?_ (by first | (simp; done) | omega | (simp; omega)) _) | (refine Below.setCell ?_ (by first | (simp; done) | omega | (simp; omega)) _) | (refine Below.trans ?_ (Below.mono (by assumption) (by first | (simp; done) | omega | (simp; omega)))))); done))⟩))
    (first
      | (go_at_call 32; refine Calls.mono (HM1.out _ HA.out.drew) ?_; rintro e w1 ⟨rfl, hb1⟩; have hS1 : RowKit.Below wa.heap.size wa w1 := (RowKit.Below.refl _ _).drew.trans hb1; have u0 := cell_below hS1 r0; have u1 := cell_below hS1 z0))
  have hW1 : Below w.heap.size w w1 := HA.out.trans (hS1.mono HA.out.size)
  have HNB1 := Lib.hid (keep_blk hS1 HNB.out)
  have t4 := cell_below hW1 q4
  have HW1 := Lib.hid hW1
  clear HNB q4 r0 z0 hb1 hS1 hW1 u0 u1 HM1
  go_upto_region 4 with (go_at_call 45; refine Calls.mono (HI1.out _ HW1.out _ HNB1.out) ?_; rintro e w2 ⟨rfl, hb2⟩; have HW2 := Lib.hid (HW1.out.trans (hb2.mono HW1.out.size)); have HNB2 := Lib.hid (keep_blk hb2 HNB1.out))
  clear hb2 HI1 HNB1 HW1 t4
  have v1 := cell_below HW2.out q1
  by_cases hpos : 0 ≤ i1
  · have hd : decide (0 ≤ i1) = true := decide_eq_true hpos
    clear v1
    go_wp2
    go_ret2
    exact ⟨_, _, _, rfl, HF1.out (.inl hpos), HW2.out⟩
  rcases Nat.eq_zero_or_pos O with h0 | h0
  · rw [HS0.out h0] at v1
    go_wp2
    go_ret2
    exact ⟨_, _, _, rfl, HF1.out (.inr h0), HW2.out⟩
  have HF := Lib.hid (HF2.out h0 (by omega))
  rw [HS.out h0] at v1
  go_upto_region 6 with fail
  obtain ⟨A2, p2, q4, hR2⟩ := HO.out h0
  rw [← HOR.out] at q4
  have q5 : w.cell? ⟨go, k2, none⟩ = some (.slice A2 (rm m.old t).length p2) := by rw [← q4, HKK2.out h0]
  clear q4
  have v5 := cell_below HW2.out q5
  have HR2 := Lib.hid (hR2.below HW2.out)
  have z2 := cells1 HNB2.out
  have hkO : k2 < O := HK2.out h0
  have hkI : (k2 : Int) < (O : Int) := by omega
  have hkJ : (k2 : Int) ≤ (O : Int) := by omega
  have hkL : (0 : Int) ≤ (k2 : Int) := by omega
  have hg2 : g < w2.heap.size := by have := HW2.out.size; omega
  have hn2 : w.heap.size < w2.heap.size := lt_of_blk HNB2.out
  clear hR2 q5
  go_region_held3 (fun w' => w'.cell? ⟨g, 1, none⟩ = some (.slice (some ⟨go, 0, none⟩) O O) ∧ w'.cell? ⟨w.heap.size, 0, none⟩ = some (.string t) ∧ Below w2.heap.size w2 w')
    (first | exact ⟨u0, u1, hS1⟩ | (refine ⟨by simpa [go_sem] using v1, by simpa [go_sem] using z2, (by ((repeat (first | exact Below.refl _ _ | (refine Below.drew ?_) | (refine Go.below_drewN ?_ _) | (refine Below.alloc ?_ (by first | (simp; done) | omega | (simp; omega)) _) | (refine Below.setCell ?_ (by first | (simp; done) | omega | (simp; omega)) _) | (refine Below.trans ?_ (Below.mono (by assumption) (by first | (simp; done) | omega | (simp; omega)))))); done))⟩))
    (first
      | (go_at_call 32; refine Calls.mono (HM2.out _ HW2.out.drew h0) ?_; rintro e w3 ⟨rfl, hb1⟩; have hS1 : RowKit.Below w2.heap.size w2 w3 := (RowKit.Below.refl _ _).drew.trans hb1; have u0 := cell_below hS1 v1; have u1 := cell_below hS1 z2))
  have HNB3 := Lib.hid (keep_blk hS1 HNB2.out)
  have v6 := cell_below hS1 v5
  have HR3 := Lib.hid (HR2.out.below hS1)
  have HW3 := Lib.hid (HW2.out.trans (hS1.mono HW2.out.size))
  clear HNB2 HR2 v5 z2 v1 u0 u1 hb1 hS1 HW2 HM2
  obtain ⟨L2, hL2⟩ : ∃ L, L = (rm m.old t).length := ⟨_, rfl⟩
  rw [← hL2] at v6
  have HI3 := Lib.hid (by rw [hL2]; exact HI2.out w3 A2 p2 w.heap.size HR3.out HNB3.out : Calls Tryd.prog 45 #[.slice A2 L2 p2, .func (Fn.func 44) #[] #[.pointer (some ⟨w.heap.size, 0, none⟩)]] w3 fun e w' => e = .returned (.int .i64 i2) ∧ Below w3.heap.size w3 w')
  clear HI2 hL2 HR3
  go_wp2_with (go_at_call 45; refine Calls.mono HI3.out ?_; rintro e w4 ⟨rfl, hb2⟩; have HW4 := Lib.hid (HW3.out.trans (hb2.mono HW3.out.size)); clear hb2)
  go_ret2
  exact ⟨_, _, _, rfl, HF.out, HW4.out⟩
/-- dict.find -/
theorem findI_is (B g gn go K : Nat) (ow : Ow) (m : Dm) (nv ov : List Value) (t : ByteArray) (w : World) (h : DR w B 75 81 80 g ow m gn go nv ov) (hi : Inv K m) (hK : K ≤ 1000000000) (ht : t.size ≤ 9223372036854775807) (hh : Hv w) :
    Calls Tryd.prog 34 #[.pointer (some ⟨g, 0, none⟩), .string t] w fun e w' => ∃ b k i, e = .returned (.tuple #[.pointer (some ⟨b, k, none⟩), .int .i64 i]) ∧ Found m t gn go b k i ∧ Below w.heap.size w w' := by
  obtain ⟨N, hN⟩ : ∃ N, N = m.now.length := ⟨_, rfl⟩
  obtain ⟨O, hO⟩ : ∃ O, O = m.old.length := ⟨_, rfl⟩
  obtain ⟨k1, hk1⟩ : ∃ k, k = hsh t % N := ⟨_, rfl⟩
  obtain ⟨k2, hk2⟩ : ∃ k, k = hsh t % O := ⟨_, rfl⟩
  obtain ⟨i1, hi1⟩ : ∃ i, i = ixI (rm m.now t) t := ⟨_, rfl⟩
  obtain ⟨i2, hi2⟩ : ∃ i, i = ixI (rm m.old t) t := ⟨_, rfl⟩
  have hn4 : 4 ≤ N := by rw [hN]; exact hi.n4
  have hnK : N ≤ 1000000000000 := by have := hi.nK; omega
  have hoK : O ≤ 1000000000000 := by have := hi.oK; omega
  have hkN : k1 < N := by rw [hk1]; exact Nat.mod_lt _ (by omega)
  obtain ⟨q0, q1, q2, q3⟩ := cells4 h.blk
  rw [← hN] at q0
  rw [← hO] at q1
  obtain ⟨A1, p1, q4, hR1⟩ := h.now.at t (by omega)
  rw [← hN, ← hk1] at q4
  obtain ⟨L1, hL1⟩ : ∃ L, L = (rm m.now t).length := ⟨_, rfl⟩
  rw [← hL1] at q4
  have hgl := lt_of_blk h.blk
  have hgn := lt_of_blk h.now.blk
  have HI1 := Lib.hid (fun (wx : World) (hb : Below w.heap.size w wx) (n1 : Nat) (hn : wx.heap[n1]? = some (.cells #[.string t] 9 (0, 0))) => (by rw [hL1, hi1]; exact ixfI_is A1 (rm m.now t) p1 n1 t wx (hR1.below hb) (hi.rmN t).2 (by have := (hi.rmN t).1; omega) hn : Calls Tryd.prog 48 #[.slice A1 L1 p1, .func (Fn.func 47) #[] #[.pointer (some ⟨n1, 0, none⟩)]] wx fun e w' => e = .returned (.int .i64 i1) ∧ Below wx.heap.size wx w'))
  have HO := Lib.hid (fun (ho : 0 < O) => (h.old (fun e => by rw [e] at hO; simp at hO; omega)).1.at t (by omega))
  have HI2 := Lib.hid (fun (wx : World) (A2 : Option Addr) (p2 n1 : Nat) (hr : RdI wx A2 (rm m.old t)) (hn : wx.heap[n1]? = some (.cells #[.string t] 9 (0, 0))) => (by rw [hi2]; exact ixfI_is A2 (rm m.old t) p2 n1 t wx hr (hi.rmO t).2 (by have := (hi.rmO t).1; omega) hn : Calls Tryd.prog 48 #[.slice A2 (rm m.old t).length p2, .func (Fn.func 47) #[] #[.pointer (some ⟨n1, 0, none⟩)]] wx fun e w' => e = .returned (.int .i64 i2) ∧ Below wx.heap.size wx w'))
  have HM1 := Lib.hid (fun (wx : World) (hb : Below w.heap.size w wx) => (by rw [hk1]; exact room_is t N wx ht (by omega) hnK (hh.below hb) : Calls Tryd.prog 32 #[.string t, .int .i64 (N : Int)] wx fun e w' => e = .returned (.int .i64 (k1 : Int)) ∧ Below wx.heap.size wx w'))
  have HM2 := Lib.hid (fun (wx : World) (hb : Below w.heap.size w wx) (ho : 0 < O) => (by rw [hk2]; exact room_is t O wx ht ho hoK (hh.below hb) : Calls Tryd.prog 32 #[.string t, .int .i64 (O : Int)] wx fun e w' => e = .returned (.int .i64 (k2 : Int)) ∧ Below wx.heap.size wx w'))
  have HF1 := Lib.hid (show 0 ≤ i1 ∨ O = 0 → Found m t gn go gn k1 i1 from fun h => .inl ⟨rfl, by rw [hk1, hN], hi1, by rw [← hO]; exact h⟩)
  have HF2 := Lib.hid (show 0 < O → i1 < 0 → Found m t gn go go k2 i2 from fun h1 h2 => .inr ⟨rfl, by rw [hk2, hO], hi2, by omega, by rw [← hi1]; exact h2⟩)
  have HK2 := Lib.hid (show 0 < O → k2 < O from fun h => by rw [hk2]; exact Nat.mod_lt _ h)
  have HN := Lib.hid (new1 w #[.string t] 9)
  have hz1 := alloc_sz w (.cells #[.string t] 9)
  have HS := Lib.hid (show 0 < O → slV go O = .slice (some ⟨go, 0, none⟩) O O from fun h => slV_pos h)
  have HS0 := Lib.hid (show O = 0 → slV go O = .slice none 0 0 from fun h => by unfold slV; rw [if_pos h])
  have HOR := Lib.hid hO
  have HKK2 := Lib.hid (show 0 < O → k2 = hsh t % O from fun _ => hk2)
  clear h hi hh hN hO hk1 hk2 hi1 hi2 hL1 hR1 q2 q3 ht
  go_enter Tryd.func34, Tryd.ntmps34
  go_upto_region 2 with fail
  obtain ⟨wa, hwa⟩ : ∃ x, x = w.alloc (.cells #[.string t] 9) := ⟨_, rfl⟩
  rw [← hwa] at HN hz1 ⊢
  clear hwa
  have HNB := Lib.hid (show wa.heap[w.heap.size]? = some (.cells #[.string t] 9 (0, 0)) from HN.out.1)
  have HA := Lib.hid (show Below w.heap.size w wa from HN.out.2)
  clear HN
  have z0 := cells1 HNB.out
  have r0 := cell_below HA.out q0
  have hga : g < wa.heap.size := by omega
  have hna : w.heap.size < wa.heap.size := by omega
  go_region_held3 (fun w' => w'.cell? ⟨g, 0, none⟩ = some (.slice (some ⟨gn, 0, none⟩) N N) ∧ w'.cell? ⟨w.heap.size, 0, none⟩ = some (.string t) ∧ Below wa.heap.size wa w')
    (first | exact ⟨u0, u1, hS1⟩ | (refine ⟨by simpa [go_sem] using r0, by simpa [go_sem] using z0, (by ((repeat (first | exact Below.refl _ _ | (refine Below.drew ?_) | (refine Go.below_drewN ?_ _) | (refine Below.alloc ?_ (by first | (simp; done) | omega | (simp; omega)) _) | (refine Below.setCell ?_ (by first | (simp; done) | omega | (simp; omega)) _) | (refine Below.trans ?_ (Below.mono (by assumption) (by first | (simp; done) | omega | (simp; omega)))))); done))⟩))
    (first
      | (go_at_call 32; refine Calls.mono (HM1.out _ HA.out.drew) ?_; rintro e w1 ⟨rfl, hb1⟩; have hS1 : RowKit.Below wa.heap.size wa w1 := (RowKit.Below.refl _ _).drew.trans hb1; have u0 := cell_below hS1 r0; have u1 := cell_below hS1 z0))
  have hW1 : Below w.heap.size w w1 := HA.out.trans (hS1.mono HA.out.size)
  have HNB1 := Lib.hid (keep_blk hS1 HNB.out)
  have t4 := cell_below hW1 q4
  have HW1 := Lib.hid hW1
  clear HNB q4 r0 z0 hb1 hS1 hW1 u0 u1 HM1
  go_upto_region 4 with (go_at_call 48; refine Calls.mono (HI1.out _ HW1.out _ HNB1.out) ?_; rintro e w2 ⟨rfl, hb2⟩; have HW2 := Lib.hid (HW1.out.trans (hb2.mono HW1.out.size)); have HNB2 := Lib.hid (keep_blk hb2 HNB1.out))
  clear hb2 HI1 HNB1 HW1 t4
  have v1 := cell_below HW2.out q1
  by_cases hpos : 0 ≤ i1
  · have hd : decide (0 ≤ i1) = true := decide_eq_true hpos
    clear v1
    go_wp2
    go_ret2
    exact ⟨_, _, _, rfl, HF1.out (.inl hpos), HW2.out⟩
  rcases Nat.eq_zero_or_pos O with h0 | h0
  · rw [HS0.out h0] at v1
    go_wp2
    go_ret2
    exact ⟨_, _, _, rfl, HF1.out (.inr h0), HW2.out⟩
  have HF := Lib.hid (HF2.out h0 (by omega))
  rw [HS.out h0] at v1
  go_upto_region 6 with fail
  obtain ⟨A2, p2, q4, hR2⟩ := HO.out h0
  rw [← HOR.out] at q4
  have q5 : w.cell? ⟨go, k2, none⟩ = some (.slice A2 (rm m.old t).length p2) := by rw [← q4, HKK2.out h0]
  clear q4
  have v5 := cell_below HW2.out q5
  have HR2 := Lib.hid (hR2.below HW2.out)
  have z2 := cells1 HNB2.out
  have hkO : k2 < O := HK2.out h0
  have hkI : (k2 : Int) < (O : Int) := by omega
  have hkJ : (k2 : Int) ≤ (O : Int) := by omega
  have hkL : (0 : Int) ≤ (k2 : Int) := by omega
  have hg2 : g < w2.heap.size := by have := HW2.out.size; omega
  have hn2 : w.heap.size < w2.heap.size := lt_of_blk HNB2.out
  clear hR2 q5
  go_region_held3 (fun w' => w'.cell? ⟨g, 1, none⟩ = some (.slice (some ⟨go, 0, none⟩) O O) ∧ w'.cell? ⟨w.heap.size, 0, none⟩ = some (.string t) ∧ Below w2.heap.size w2 w')
    (first | exact ⟨u0, u1, hS1⟩ | (refine ⟨by simpa [go_sem] using v1, by simpa [go_sem] using z2, (by ((repeat (first | exact Below.refl _ _ | (refine Below.drew ?_) | (refine Go.below_drewN ?_ _) | (refine Below.alloc ?_ (by first | (simp; done) | omega | (simp; omega)) _) | (refine Below.setCell ?_ (by first | (simp; done) | omega | (simp; omega)) _) | (refine Below.trans ?_ (Below.mono (by assumption) (by first | (simp; done) | omega | (simp; omega)))))); done))⟩))
    (first
      | (go_at_call 32; refine Calls.mono (HM2.out _ HW2.out.drew h0) ?_; rintro e w3 ⟨rfl, hb1⟩; have hS1 : RowKit.Below w2.heap.size w2 w3 := (RowKit.Below.refl _ _).drew.trans hb1; have u0 := cell_below hS1 v1; have u1 := cell_below hS1 z2))
  have HNB3 := Lib.hid (keep_blk hS1 HNB2.out)
  have v6 := cell_below hS1 v5
  have HR3 := Lib.hid (HR2.out.below hS1)
  have HW3 := Lib.hid (HW2.out.trans (hS1.mono HW2.out.size))
  clear HNB2 HR2 v5 z2 v1 u0 u1 hb1 hS1 HW2 HM2
  obtain ⟨L2, hL2⟩ : ∃ L, L = (rm m.old t).length := ⟨_, rfl⟩
  rw [← hL2] at v6
  have HI3 := Lib.hid (by rw [hL2]; exact HI2.out w3 A2 p2 w.heap.size HR3.out HNB3.out : Calls Tryd.prog 48 #[.slice A2 L2 p2, .func (Fn.func 47) #[] #[.pointer (some ⟨w.heap.size, 0, none⟩)]] w3 fun e w' => e = .returned (.int .i64 i2) ∧ Below w3.heap.size w3 w')
  clear HI2 hL2 HR3
  go_wp2_with (go_at_call 48; refine Calls.mono HI3.out ?_; rintro e w4 ⟨rfl, hb2⟩; have HW4 := Lib.hid (HW3.out.trans (hb2.mono HW3.out.size)); clear hb2)
  go_ret2
  exact ⟨_, _, _, rfl, HF.out, HW4.out⟩
end Go.Proofs.YtfdcacjfngjmdaaDoor.T
