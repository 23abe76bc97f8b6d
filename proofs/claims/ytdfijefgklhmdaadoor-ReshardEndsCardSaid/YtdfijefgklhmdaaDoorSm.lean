import Derived.Deep.DeepCutAuto
import Derived.Laws.OwnMore
import Derived.OwnWalk
import Derived.Lib.AppendStr
import Derived.Lib.SliceRun
import Derived.Lib.SmallJoins
import Derived.IntWalk
import Derived.Lib.ItoaLen
import Derived.Deep.AppendLies
import Derived.Test.YtdfijefgklhmdaaDoorProg
import Derived.Test.YtdfijefgklhmdaaDoorShelf
import Derived.Test.YtdfijefgklhmdaaDoorMem
import Derived.Deep.RegionLaw
import Derived.Test.YtdfijefgklhmdaaDoorSk
import Derived.WalkKit
import Derived.Outline
import Derived.WalkLawsBesides
import Derived.Deep.QuietTactic
import Derived.BigQuiet
import Derived.Lib.Hide
import Derived.Handy
import Derived.Deep.RegionHeld3
import Derived.Deep.DrawnRows
import Derived.KernelRfl
import Derived.Great.Walk
import Derived.Test.YtdfijefgklhmdaaDoorOwn
namespace Go.Proofs.YtdfijefgklhmdaaDoor.T
open Go Go.RowKit Go.Sort Mem Own
set_option maxRecDepth 100000
set_option maxHeartbeats 1000000
set_option linter.unusedVariables false
set_option linter.unusedSimpArgs false

theorem info41 : (Tryd.prog.info? 41).map (fun i => (i.zero, i.size, i.bytes)) = some (some (.agg #[.int .i64 0, .int .i64 0, .string ByteArray.empty, .slice none 0 0]), 4, 56) := by kernel_rfl
def ksV (l : List ByteArray) : List Value := l.flatMap (fun t => [.int .i64 4, .int .i64 0, .string t, .slice none 0 0])
theorem ksV_len (l : List ByteArray) : (ksV l).length = l.length * 4 := by
  induction l with
  | nil => rfl
  | cons p l ih => simp [ksV] at ih ⊢; omega
theorem ksV_get : ∀ (l : List ByteArray) (i : Nat) (t : ByteArray), l[i]? = some t → (ksV l)[i * 4]? = some (.int .i64 4) ∧ (ksV l)[i * 4 + 1]? = some (.int .i64 0) ∧ (ksV l)[i * 4 + 2]? = some (.string t) ∧ (ksV l)[i * 4 + 3]? = some (.slice none 0 0)
  | [], i, p, h => by simp at h
  | q :: l, 0, p, h => by simp at h; subst h; simp [ksV]
  | q :: l, i + 1, p, h => by
    have := ksV_get l i p (by simpa using h)
    rw [show (i + 1) * 4 = i * 4 + 4 by omega]
    simpa [ksV] using this
theorem ksV_snoc (l : List ByteArray) (t : ByteArray) : ksV (l ++ [t]) = ksV l ++ [.int .i64 4, .int .i64 0, .string t, .slice none 0 0] := by simp [ksV]
theorem ownK_slice {w : World} {B n : Nat} {v : Value} {xs : List Value} (h : w.ownsRow B 41 4 v n xs) : ∃ A c, v = .slice A n c := by
  rcases h.2 with ⟨rfl, rfl⟩ | ⟨g, cap, cur, rfl, _⟩
  · exact ⟨none, 0, rfl⟩
  · exact ⟨_, _, rfl⟩
theorem ownK_rd {w : World} {B n : Nat} {A : Option Addr} {c : Nat} {l : List ByteArray} (h : w.ownsRow B 41 4 (.slice A n c) n (ksV l)) : RdK w A (l.map fun t => (4, t)) ∧ n = l.length := by
  have h' := h
  have hl : n = l.length := by have := h.1; rw [ksV_len] at this; omega
  rcases h.2 with ⟨e, h0⟩ | ⟨g, cap, cur, e, _, hg, hnc, hcm, _⟩
  · injection e with e1 e2 e3
    have : l = [] := List.eq_nil_of_length_eq_zero (by omega)
    exact ⟨.inl (by rw [this]; rfl), hl⟩
  · injection e with e1 e2 e3
    subst e1; subst e3
    refine ⟨.inr ⟨g, 0, rfl, fun i x hx => ?_⟩, hl⟩
    rw [List.getElem?_map] at hx
    obtain ⟨t, ht, rfl⟩ := Option.map_eq_some_iff.1 hx
    have hi : i < l.length := (List.getElem?_eq_some_iff.1 ht).1
    have hg := ksV_get l i t ht
    rw [Nat.zero_add, h'.cellAt (i * 4) (by omega), h'.cellAt (i * 4 + 1) (by omega), h'.cellAt (i * 4 + 2) (by omega), h'.cellAt (i * 4 + 3) (by omega)]
    exact ⟨hg.1, ⟨0, hg.2.1⟩, hg.2.2.1, none, 0, 0, hg.2.2.2⟩
theorem free4 {w : World} {b T : Nat} {v0 v1 v2 v3 : Value} (h : w.heap[b]? = some (.cells #[v0, v1, v2, v3] T (0, 0))) :
    w.frozen? ⟨b, 0, none⟩ = false ∧ w.frozen? ⟨b, 1, none⟩ = false ∧ w.frozen? ⟨b, 2, none⟩ = false ∧ w.frozen? ⟨b, 3, none⟩ = false := ⟨of_blk_free h 0, of_blk_free h 1, of_blk_free h 2, of_blk_free h 3⟩
theorem set4 {w : World} {b T : Nat} {v0 v1 v2 v3 : Value} (u0 u1 u2 u3 : Value) (h : w.heap[b]? = some (.cells #[v0, v1, v2, v3] T (0, 0))) :
    ((((w.setCell ⟨b, 0, none⟩ u0).setCell ⟨b, 1, none⟩ u1).setCell ⟨b, 2, none⟩ u2).setCell ⟨b, 3, none⟩ u3).heap[b]? = some (.cells #[u0, u1, u2, u3] T (0, 0)) := by
  have h1 := heap_set (i := 0) h u0
  have h2 := heap_set (i := 1) h1 u1
  have h3 := heap_set (i := 2) h2 u2
  have h4 := heap_set (i := 3) h3 u3
  simpa using h4
theorem below_s4 {B b : Nat} {w w1 : World} {u0 u1 u2 u3 : Value} (h : Below B w w1) (hb : B ≤ b) :
    Below B w ((((w1.setCell ⟨b, 0, none⟩ u0).setCell ⟨b, 1, none⟩ u1).setCell ⟨b, 2, none⟩ u2).setCell ⟨b, 3, none⟩ u3) :=
  (((h.setCell hb _).setCell hb _).setCell hb _).setCell hb _
theorem RdK.set {w : World} {A : Option Addr} {l : List (Int × ByteArray)} (h : RdK w A l) {b i : Nat} {u : Value} (hA : ∀ b' off, A = some ⟨b', off, none⟩ → b' ≠ b) : RdK (w.setCell ⟨b, i, none⟩ u) A l := by
  rcases h with h | ⟨b', off, rfl, h⟩
  · exact .inl h
  · refine .inr ⟨b', off, rfl, fun i x hx => ?_⟩
    obtain ⟨h1, ⟨z, h2⟩, h3, B, n, c, h4⟩ := h i x hx
    have hne := hA b' off rfl
    exact ⟨cell_ne h1 hne, ⟨z, cell_ne h2 hne⟩, cell_ne h3 hne, B, n, c, cell_ne h4 hne⟩
theorem end42 {fn : Func} {R : Ending → World → Prop} {tmps : Array Value} {w : World} {b T : Nat} {v0 v1 v2 v3 u : Value} (hres : fn.results = #[ResultVar.cell 6 41, ResultVar.tmp 7])
    (h2 : tmps[6]?.getD undef = .pointer (some ⟨b, 0, none⟩)) (h3 : tmps[7]?.getD undef = u) (hb : w.heap[b]? = some (.cells #[v0, v1, v2, v3] T (0, 0)))
    (hR : R (.returned (.tuple #[.agg #[v0, v1, v2, v3], u])) w) : bodyPost Tryd.prog fn R .ret { tmps := tmps, defers := [] } w := by
  obtain ⟨g0, g1, g2, g3⟩ := facts4 hb
  refine bodyPost_ret (v := .tuple #[.agg #[v0, v1, v2, v3], u]) ?_ rfl hR
  simp [results, hres, go_sem, h2, h3, g0, g1, g2, g3]
def TellsOut (r : Rp) (left : List ByteArray) (w : World) (e : Ending) (w' : World) : Prop :=
  ∃ A c A' c', e = .returned (.tuple #[rpV r A c, .slice A' left.length c']) ∧ RowKit.Hid (RdK w' A r.ks) ∧ RowKit.Hid (Rd w' A' left) ∧ RowKit.Hid (left.length ≤ c') ∧ RowKit.Hid (Below w.heap.size w w')
theorem tells_out {r : Rp} {left : List ByteArray} {w w' : World} {k z : Int} {t : ByteArray} {n : Nat} {ks : List (Int × ByteArray)} {A A' : Option Addr} {c c' m : Nat} (hr : r = ⟨k, z, t, ks⟩) (hn : n = ks.length) (hm : m = left.length) (h1 : RdK w' A ks) (h2 : Rd w' A' left) (h3 : left.length ≤ c') (hb : Below w.heap.size w w') :
    TellsOut r left w (.returned (.tuple #[.agg #[.int .i64 k, .int .i64 z, .string t, .slice A n c], .slice A' m c'])) w' := by
  subst hr hn hm
  exact ⟨A, c, A', c', rfl, Lib.hid h1, Lib.hid h2, Lib.hid h3, Lib.hid hb⟩

theorem own_keep {wr w1 : World} {B n sz k : Nat} {T : TypeId} {v : Value} {xs : List Value} {o o' : Obj} (ho : wr.ownsRow B T sz v n xs) (hg : (wr.alloc o).grownBy w1 v.ownBlock) (hk : wr.heap[k]? = some o') (hlt : k < B) : w1.heap[k]? = some o' := by
  rw [hg.block k (by rw [alloc_size]; have := lt_of_block hk; omega) (fun e => by have := (ho.lt k e.symm).1; omega)]
  exact blk_alloc hk _
theorem own_set {w : World} {T : TypeId} {sz B n b i : Nat} {v u : Value} {xs : List Value} (h : w.ownsRow B T sz v n xs) (hb : b < B) : (w.setCell ⟨b, i, none⟩ u).ownsRow B T sz v n xs :=
  h.kept (only_set w b i u) (by
    cases hv : v.ownBlock with
    | none => exact .inl rfl
    | some k => right; intro e; injection e with e; have := (h.lt k hv).1; omega)
theorem rd_s4o {w : World} {b n : Nat} {A : Option Addr} {l : List ByteArray} (h : Rd w A l) (ho : l = [] ∨ ∀ b' off, A = some ⟨b', off, none⟩ → b' < n) (hb : n ≤ b) (u0 u1 u2 u3 : Value) :
    Rd ((((w.setCell ⟨b, 0, none⟩ u0).setCell ⟨b, 1, none⟩ u1).setCell ⟨b, 2, none⟩ u2).setCell ⟨b, 3, none⟩ u3) A l := by
  rcases ho with rfl | ho
  · exact .inl rfl
  · have hA : ∀ b' off, A = some ⟨b', off, none⟩ → b' ≠ b := fun b' off e => by have := ho b' off e; omega
    exact rd_set (rd_set (rd_set (rd_set h hA) hA) hA) hA
theorem rd_s4n {w : World} {b : Nat} {A : Option Addr} {l : List ByteArray} (h : Rd w A l) (hA : ∀ b' off, A = some ⟨b', off, none⟩ → b' ≠ b) (u0 u1 u2 u3 : Value) :
    Rd ((((w.setCell ⟨b, 0, none⟩ u0).setCell ⟨b, 1, none⟩ u1).setCell ⟨b, 2, none⟩ u2).setCell ⟨b, 3, none⟩ u3) A l := rd_set (rd_set (rd_set (rd_set h hA) hA) hA) hA
theorem rdk_s4 {w : World} {b : Nat} {A : Option Addr} {l : List (Int × ByteArray)} (h : RdK w A l) (hA : ∀ b' off, A = some ⟨b', off, none⟩ → b' ≠ b) (u0 u1 u2 u3 : Value) :
    RdK ((((w.setCell ⟨b, 0, none⟩ u0).setCell ⟨b, 1, none⟩ u1).setCell ⟨b, 2, none⟩ u2).setCell ⟨b, 3, none⟩ u3) A l := (((h.set hA).set hA).set hA).set hA
set_option maxHeartbeats 2000000 in
theorem tells_keys (b o n cl : Nat) (K : List ByteArray) (AK : Option Addr) (ck : Nat) (B : Int) (w : World) (x0 : ByteArray) (l0 : w.cell? ⟨b, o, none⟩ = some (.string x0)) (hn : 0 < n) (hx0 : x0.toList = [75, 69, 89, 83]) (hK : Rd w AK K) (hKC : K.length ≤ ck) (hKn : K.length ≤ 60) (hB : 1 ≤ B ∧ B ≤ 100) :
    Calls Tryd.prog 17 #[.slice (some ⟨b, o, none⟩) n cl, .slice AK K.length ck, .int .i64 B] w (TellsOut ⟨6, 0, ⟨#[]⟩, (K.take B.toNat).map (fun t => (4, t))⟩ K w) := by
  obtain ⟨i0, hi, hz0, hz1, hz2⟩ := info_parts info41
  have HK := Lib.hid hK
  have HKC := Lib.hid hKC
  have hbx := lt_of_cell l0
  clear hK hKC
  obtain ⟨N, hN⟩ : ∃ N, N = K.length := ⟨_, rfl⟩
  have HN := Lib.hid hN
  rw [← hN] at hKn ⊢
  clear hN
  obtain ⟨Bn, rfl⟩ : ∃ Bn : Nat, B = (Bn : Int) := ⟨B.toNat, by omega⟩
  rw [Int.toNat_natCast]
  have hB1 : 1 ≤ Bn := by omega
  have hB2 : Bn ≤ 100 := by omega
  clear hB
  obtain ⟨m, hm⟩ : ∃ m, m = min N Bn := ⟨_, rfl⟩
  have HM := Lib.hid hm
  have hmN : m ≤ N := by omega
  have hKCn : N ≤ ck := by have := HKC.out; have := HN.out; omega
  have hmc : m ≤ ck := by have := HKC.out; have := HN.out; omega
  have hmin : min (N : Int) (Bn : Int) = (m : Int) := by omega
  clear hm
  have HA3 := Lib.hid (alloc3 w #[.int .i64 0, .int .i64 0, .string ⟨#[]⟩, .slice none 0 0] #[.int .i64 1, .int .i64 0, .string ⟨#[79, 75]⟩, .slice none 0 0] #[.int .i64 6, .int .i64 0, .string ⟨#[]⟩, .slice none 0 0] 41 41 41)
  go_enter Tryd.func17, Tryd.ntmps17
  go_wp2_with fail
  go_loopw [29] (fun s29 wr => ∃ (v : Value) (i : Nat), i ≤ m ∧ s29 = .int .i64 i ∧ RowKit.Hid (wr.heap[w.heap.size]? = some (.cells #[.int .i64 0, .int .i64 0, .string ⟨#[]⟩, .slice none 0 0] 41 (0, 0))) ∧ RowKit.Hid (wr.heap[w.heap.size + 1 + 1]? = some (.cells #[.int .i64 6, .int .i64 0, .string ⟨#[]⟩, v] 41 (0, 0))) ∧ RowKit.Hid (wr.ownsRow (w.heap.size + 3) 41 4 v i (ksV (K.take i))) ∧ RowKit.Hid (Below w.heap.size w wr)) (fun s29 _ => m - (intOf s29).toNat)
  case atStart => exact ⟨.slice none 0 0, 0, Nat.zero_le _, rfl, Lib.hid HA3.out.1, Lib.hid HA3.out.2.2.1, Lib.hid (by simpa [ksV] using World.ownsRow_nil _ _ _ _), Lib.hid HA3.out.2.2.2.1⟩
  case round =>
    obtain ⟨v, i, hiN, rfl, H6, H9, HO, HB⟩ := hrel
    obtain ⟨y0, y1, y2, y3⟩ := facts4 H9.out
    obtain ⟨f0, f1, f2, f3⟩ := free4 H9.out
    have hk9 := lt_of_block H9.out
    by_cases hlt : i < m
    · have hlt2 := Lib.hid (show i < K.length by rw [← HN.out]; omega)
      obtain ⟨kb, ko, rfl⟩ := HK.out.addr (Nat.zero_lt_of_lt hlt2.out)
      have g0 := (HK.out.below HB.out).cell hlt2.out
      have HTk := Lib.hid (show K.take (i + 1) = K.take i ++ [K[i]'hlt2.out] from List.take_succ_eq_append_getElem hlt2.out)
      generalize K[i]'hlt2.out = t at g0 HTk
      go_wp2_with ((at_builtin; refine wpList_append_own _ rfl (.tmp 34) (.tmp 37) 39 rfl (w.heap.size + 3) 41 i0 _ 4 56 Tryd.underlying39 hi hz0 hz1 hz2 rfl (by decide) v i (ksV (K.take i)) rfl (HO.out.alloc _) ⟨wr.heap.size, 0, none⟩ 1 1 [.int .i64 4, .int .i64 0, .string t, .slice none 0 0] rfl rfl (World.news_of_block (cs := #[.int .i64 4, .int .i64 0, .string t, .slice none 0 0]) (t := 41) (fr := (0, 0)) (heap_alloc_new wr _)) (by simp [Value.oneCell']) (by unfold maxLen; omega) (by omega) (by rw [alloc_size]; omega) ?_; intro v1 w1 hown hg _; have HO1 := Lib.hid hown; have HG := Lib.hid hg; clear hown hg; obtain ⟨Av, cv, rfl⟩ := ownK_slice HO1.out; have H61 := Lib.hid (own_keep HO.out HG.out H6.out (by omega)); have H91 := Lib.hid (own_keep HO.out HG.out H9.out (by omega)); clear y0 y1 y2 y3 f0 f1 f2 f3; obtain ⟨y0, y1, y2, y3⟩ := facts4 H91.out; obtain ⟨f0, f1, f2, f3⟩ := free4 H91.out))
      have hbe : Below w.heap.size w w1 := (HB.out.alloc HB.out.size _).grown HG.out (by rw [alloc_size]; have := HB.out.size; omega) (fun k hk => by have := (HO.out.lt k hk).1; omega)
      refine ⟨⟨.slice Av (i + 1) cv, i + 1, by omega, by go_num, Lib.hid (blk_other (by omega) H61.out), Lib.hid ?_, Lib.hid ?_, Lib.hid (hbe.setCell (show w.heap.size ≤ w.heap.size + 1 + 1 by omega) _)⟩, by simp [intOf]; omega⟩
      · have := heap_set (i := 3) H91.out (.slice Av (i + 1) cv); simpa using this
      · rw [HTk.out, ksV_snoc]
        exact own_set HO1.out (by omega)
    · obtain rfl : i = m := by omega
      obtain ⟨A, c, rfl⟩ := ownK_slice HO.out
      have HR := Lib.hid (ownK_rd HO.out)
      obtain ⟨z0, z1, z2, z3⟩ := facts4 H6.out
      obtain ⟨e0, e1, e2, e3⟩ := free4 H6.out
      have hk6 := lt_of_block H6.out
      go_wp2
      refine end42 Tryd.results17 rfl rfl (set4 _ _ _ _ H6.out) ?_
      have htk : K.take Bn = K.take i := by
        rw [HM.out, HN.out]
        by_cases h : K.length ≤ Bn
        · rw [List.take_of_length_le h, Nat.min_eq_left h, List.take_length]
        · rw [Nat.min_eq_right (by omega)]
      rw [htk]
      exact tells_out rfl (by rw [List.length_map]; exact HR.out.2) HN.out (rdk_s4 HR.out.1 (fun b' off e => by have := (HO.out.lt b' (by rw [e]; rfl)).1; omega) _ _ _ _) (rd_s4o (HK.out.below HB.out) (rd_old HK.out) (Nat.le_refl _) _ _ _ _) (by rw [← HN.out]; exact hKCn) (below_s4 HB.out (Nat.le_refl _))

/-- The keys of a row that are not the one. -/
def nots (x : ByteArray) (K : List ByteArray) : List ByteArray := K.filter (fun k => !(k.toList == x.toList))
theorem nots_snoc {x t : ByteArray} {K : List ByteArray} : nots x (K ++ [t]) = if t.toList == x.toList then nots x K else nots x K ++ [t] := by
  unfold nots; rw [List.filter_append]; cases h : (t.toList == x.toList) <;> simp [List.filter_cons, h]
set_option maxHeartbeats 2000000 in
theorem tells_mig (b o n cl : Nat) (K : List ByteArray) (AK : Option Addr) (ck : Nat) (B : Int) (w : World) (x0 x2 : ByteArray) (l0 : w.cell? ⟨b, o, none⟩ = some (.string x0)) (l2 : w.cell? ⟨b, o + 2, none⟩ = some (.string x2)) (hn : 2 < n) (hx0 : x0.toList = [77, 73, 71, 82, 65, 84, 69]) (hK : Rd w AK K) (hKn : K.length ≤ 60) :
    Calls Tryd.prog 17 #[.slice (some ⟨b, o, none⟩) n cl, .slice AK K.length ck, .int .i64 B] w (TellsOut ⟨1, 0, ⟨#[79, 75]⟩, []⟩ (nots x2 K) w) := by
  obtain ⟨i0, hi, hz0, hz1, hz2⟩ := info_parts info9
  have HK := Lib.hid hK
  have hbx := lt_of_cell l0
  clear hK
  obtain ⟨N, hN⟩ : ∃ N, N = K.length := ⟨_, rfl⟩
  have HN := Lib.hid hN
  rw [← hN] at hKn ⊢
  clear hN
  have HA3 := Lib.hid (alloc3 w #[.int .i64 0, .int .i64 0, .string ⟨#[]⟩, .slice none 0 0] #[.int .i64 1, .int .i64 0, .string ⟨#[79, 75]⟩, .slice none 0 0] #[] 41 41 41)
  have HA2 := Lib.hid (show (((w.alloc (.cells #[.int .i64 0, .int .i64 0, .string ⟨#[]⟩, .slice none 0 0] 41)).alloc (.cells #[.int .i64 1, .int .i64 0, .string ⟨#[79, 75]⟩, .slice none 0 0] 41))).heap[w.heap.size]? = some (.cells #[.int .i64 0, .int .i64 0, .string ⟨#[]⟩, .slice none 0 0] 41 (0, 0)) ∧ (((w.alloc (.cells #[.int .i64 0, .int .i64 0, .string ⟨#[]⟩, .slice none 0 0] 41)).alloc (.cells #[.int .i64 1, .int .i64 0, .string ⟨#[79, 75]⟩, .slice none 0 0] 41))).heap[w.heap.size + 1]? = some (.cells #[.int .i64 1, .int .i64 0, .string ⟨#[79, 75]⟩, .slice none 0 0] 41 (0, 0)) from ⟨blk_alloc (heap_alloc_new w _) _, by have := heap_alloc_new (w.alloc (.cells #[.int .i64 0, .int .i64 0, .string ⟨#[]⟩, .slice none 0 0] 41)) (.cells #[.int .i64 1, .int .i64 0, .string ⟨#[79, 75]⟩, .slice none 0 0] 41); rw [alloc_size] at this; exact this⟩)
  have HBz := Lib.hid (((Below.refl w.heap.size w).alloc (Nat.le_refl _) (.cells #[.int .i64 0, .int .i64 0, .string ⟨#[]⟩, .slice none 0 0] 41)).alloc (by rw [alloc_size]; omega) (.cells #[.int .i64 1, .int .i64 0, .string ⟨#[79, 75]⟩, .slice none 0 0] 41))
  go_enter Tryd.func17, Tryd.ntmps17
  go_wp2_with fail
  go_loopw [12, 50] (fun s12 s50 wr => ∃ (v0 : Value) (i j : Nat) (L : List ByteArray), v0 = s12 ∧ i ≤ N ∧ s50 = .int .i64 i ∧ RowKit.Hid (j ≤ i) ∧ RowKit.Hid (L = nots x2 (K.take i)) ∧ RowKit.Hid (wr.heap[w.heap.size]? = some (.cells #[.int .i64 0, .int .i64 0, .string ⟨#[]⟩, .slice none 0 0] 41 (0, 0))) ∧ RowKit.Hid (wr.heap[w.heap.size + 1]? = some (.cells #[.int .i64 1, .int .i64 0, .string ⟨#[79, 75]⟩, .slice none 0 0] 41 (0, 0))) ∧ RowKit.Hid (wr.ownsRow (w.heap.size + 2) 9 1 v0 j (vs L)) ∧ RowKit.Hid (Below w.heap.size w wr)) (fun _ s50 _ => N - (intOf s50).toNat)
  case atStart => exact ⟨_, 0, 0, [], rfl, Nat.zero_le _, rfl, Lib.hid (Nat.le_refl _), Lib.hid rfl, Lib.hid HA2.out.1, Lib.hid HA2.out.2, Lib.hid (World.ownsRow_nil _ _ _ _), HBz⟩
  case round =>
    obtain ⟨v0, i, j, L, rfl, hiN, rfl, HJ, HL, H6, H8, HO, HB⟩ := hrel
    by_cases hlt : i < N
    · have hlt2 := Lib.hid (show i < K.length by rw [← HN.out]; exact hlt)
      obtain ⟨kb, ko, rfl⟩ := HK.out.addr (Nat.zero_lt_of_lt hlt2.out)
      have g0 := (HK.out.below HB.out).cell hlt2.out
      have m0 := cell_below HB.out l0
      have m2 := cell_below HB.out l2
      have HTk := Lib.hid (show K.take (i + 1) = K.take i ++ [K[i]'hlt2.out] from List.take_succ_eq_append_getElem hlt2.out)
      generalize K[i]'hlt2.out = t at g0 HTk
      have hjN : j ≤ 60 := by have := HJ.out; omega
      have hk8 := lt_of_block H8.out
      have hsz := HB.out.size
      by_cases hq : t.toList = x2.toList
      · have hqb : (t.toList == x2.toList) = true := by simpa using hq
        have hqc : (t.toList != x2.toList) = false := by simpa using hq
        have HL2 := Lib.hid (show L = nots x2 (K.take (i + 1)) by rw [HTk.out, nots_snoc, hqb, HL.out]; simp)
        have HJ2 := Lib.hid (show j ≤ i + 1 by have := HJ.out; omega)
        clear hq
        go_wp2
        exact ⟨⟨_, i + 1, j, L, rfl, by omega, by go_num, HJ2, HL2, H6, H8, HO, HB⟩, by simp [intOf]; omega⟩
      · have hqb : (t.toList == x2.toList) = false := by simpa using hq
        have hqc : (t.toList != x2.toList) = true := by simpa using hq
        have HL2 := Lib.hid (show L ++ [t] = nots x2 (K.take (i + 1)) by rw [HTk.out, nots_snoc, hqb, HL.out]; simp)
        have HJ2 := Lib.hid (show j + 1 ≤ i + 1 by have := HJ.out; omega)
        clear hq
        go_wp2_with ((at_builtin; refine wpList_append_own _ rfl (.tmp 59) (.tmp 61) 30 rfl (w.heap.size + 2) 9 i0 _ 1 16 Tryd.underlying30 hi hz0 hz1 hz2 rfl (by decide) v0 j (vs L) rfl (HO.out.alloc _) ⟨wr.heap.size, 0, none⟩ 1 1 [.string t] rfl rfl (World.news_of_block (cs := #[.string t]) (t := 9) (fr := (0, 0)) (heap_alloc_new wr _)) (by simp [Value.oneCell']) (by unfold maxLen; omega) (by omega) (by rw [alloc_size]; omega) ?_; intro v1 w1 hown hg _; have HO1 := Lib.hid (push_row hown); have HG := Lib.hid hg; clear hown hg; have H61 := Lib.hid (own_keep HO.out HG.out H6.out (by omega)); have H81 := Lib.hid (own_keep HO.out HG.out H8.out (by omega))))
        have hbe : Below w.heap.size w w1 := (HB.out.alloc HB.out.size _).grown HG.out (by rw [alloc_size]; have := HB.out.size; omega) (fun k hk => by have := (HO.out.lt k hk).1; omega)
        exact ⟨⟨_, i + 1, j + 1, L ++ [t], rfl, by omega, by go_num, HJ2, HL2, H61, H81, HO1, Lib.hid hbe⟩, by simp [intOf]; omega⟩
    · obtain rfl : i = N := by omega
      obtain ⟨A, c, rfl⟩ := own_slice HO.out
      have HLN := Lib.hid (own_len HO.out)
      obtain ⟨z0, z1, z2, z3⟩ := facts4 H6.out
      obtain ⟨e0, e1, e2, e3⟩ := free4 H6.out
      obtain ⟨y0, y1, y2, y3⟩ := facts4 H8.out
      have hk6 := lt_of_block H6.out
      have hk8 := lt_of_block H8.out
      go_wp2
      refine end42 Tryd.results17 rfl rfl (set4 _ _ _ _ H6.out) ?_
      have hLe : L = nots x2 K := by rw [HL.out, HN.out, List.take_length]
      have hrd := own_rd (l := L) (n := j) (by rw [HLN.out]; exact HO.out)
      rw [← hLe]
      have hOl := HO.out
      exact tells_out rfl rfl HLN.out.symm (.inl rfl) (rd_s4n hrd.1 (fun b' off e => by have := (hOl.lt b' (by rw [e]; rfl)).1; omega) _ _ _ _) hrd.2.2.1 (below_s4 HB.out (Nat.le_refl _))
set_option maxHeartbeats 2000000 in
theorem tells_node (b o n cl : Nat) (K : List ByteArray) (AK : Option Addr) (ck : Nat) (B : Int) (w : World) (x0 x2 : ByteArray) (l0 : w.cell? ⟨b, o, none⟩ = some (.string x0)) (l2 : w.cell? ⟨b, o + 2, none⟩ = some (.string x2)) (hn : 2 < n) (hx0 : (x0.toList == [75, 69, 89, 83]) = false) (hx1 : (x0.toList == [77, 73, 71, 82, 65, 84, 69]) = false) (hx2 : x2.toList = [78, 79, 68, 69]) (hK : Rd w AK K) (hKC : K.length ≤ ck) :
    Calls Tryd.prog 17 #[.slice (some ⟨b, o, none⟩) n cl, .slice AK K.length ck, .int .i64 B] w (TellsOut ⟨3, 5, ⟨#[]⟩, []⟩ K w) := by
  have HK := Lib.hid hK
  have HKC := Lib.hid hKC
  have hbx := lt_of_cell l0
  clear hK hKC
  go_enter Tryd.func17, Tryd.ntmps17
  go_wp2
  refine end42 Tryd.results17 rfl rfl (blk_alloc (heap_alloc_new w _) _) ?_
  have hb := ((Below.refl w.heap.size w).alloc (Nat.le_refl _) (.cells #[.int .i64 3, .int .i64 5, .string ⟨#[]⟩, .slice none 0 0] 41)).alloc (by rw [alloc_size]; omega) (.cells #[.int .i64 1, .int .i64 0, .string ⟨#[79, 75]⟩, .slice none 0 0] 41)
  exact tells_out rfl rfl rfl (.inl rfl) (HK.out.below hb) HKC.out hb
set_option maxHeartbeats 2000000 in
theorem tells_fine (b o n cl : Nat) (K : List ByteArray) (AK : Option Addr) (ck : Nat) (B : Int) (w : World) (x0 x2 : ByteArray) (l0 : w.cell? ⟨b, o, none⟩ = some (.string x0)) (l2 : w.cell? ⟨b, o + 2, none⟩ = some (.string x2)) (hn : 2 < n) (hx0 : (x0.toList == [75, 69, 89, 83]) = false) (hx1 : (x0.toList == [77, 73, 71, 82, 65, 84, 69]) = false) (hx2 : (x2.toList == [78, 79, 68, 69]) = false) (hK : Rd w AK K) (hKC : K.length ≤ ck) :
    Calls Tryd.prog 17 #[.slice (some ⟨b, o, none⟩) n cl, .slice AK K.length ck, .int .i64 B] w (TellsOut ⟨1, 0, ⟨#[79, 75]⟩, []⟩ K w) := by
  have HK := Lib.hid hK
  have HKC := Lib.hid hKC
  have hbx := lt_of_cell l0
  clear hK hKC
  go_enter Tryd.func17, Tryd.ntmps17
  go_wp2
  refine end42 Tryd.results17 rfl rfl (blk_alloc (heap_alloc_new w _) _) ?_
  have hb := ((Below.refl w.heap.size w).alloc (Nat.le_refl _) (.cells #[.int .i64 1, .int .i64 0, .string ⟨#[79, 75]⟩, .slice none 0 0] 41)).alloc (by rw [alloc_size]; omega) (.cells #[.int .i64 1, .int .i64 0, .string ⟨#[79, 75]⟩, .slice none 0 0] 41)
  exact tells_out rfl rfl rfl (.inl rfl) (HK.out.below hb) HKC.out hb
end Go.Proofs.YtdfijefgklhmdaaDoor.T
