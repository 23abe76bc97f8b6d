import Derived.Test.YtojnhgeffnjndaaProg
import Derived.Test.YtojnhgeffnjndaaShelf
import Derived.Test.YtojnhgeffnjndaaS4
import Derived.WalkKit
import Derived.Outline
import Derived.WalkLawsBesides
import Derived.Deep.QuietTactic
import Derived.BigQuiet
import Derived.Lib.Hide
import Derived.Handy
import Derived.Deep.RegionHeld3
import Derived.Deep.DrawnRows
import Derived.Sort.OwnSorted
namespace Go.Proofs.Ytojnhgeffnjndaa.T
open Go Go.RowKit Mem Go.Great Go.Sort Go.Lib
set_option maxRecDepth 100000
set_option maxHeartbeats 8000000
set_option linter.unusedVariables false
set_option linter.unusedSimpArgs false

def mk (x : List UInt8) : ByteArray := ⟨x.toArray⟩
theorem mk_toList (x : List UInt8) : (mk x).toList = x := by rw [ByteArray.toList_eq]; rfl
theorem mk_data (x : ByteArray) : mk x.toList = x := ba_inj (mk_toList _)
theorem data_eq (x : ByteArray) : x.data.toList = x.toList := (ByteArray.toList_eq x).symm
theorem vs_mk (ss : List (List UInt8)) : vs (ss.map mk) = ss.map encStr := by simp [vs, mk, encStr, Function.comp_def]
theorem map_mk (l : List ByteArray) : (l.map ByteArray.toList).map mk = l := by
  rw [List.map_map]; conv => rhs; rw [← List.map_id l]
  exact List.map_congr_left fun x _ => mk_data x
theorem vs_enc (l : List ByteArray) : vs l = (l.map ByteArray.toList).map encStr := by rw [← vs_mk, map_mk]

theorem below_cells {B : Nat} {a : World} (b : Nat) (hb : B ≤ b) : ∀ (vs : List Value) (o : Nat) {w : World}, Below B a w → Below B a (w.setCells b o vs)
  | [], _, _, h => h
  | v :: r, o, _, h => below_cells b hb r (o + 1) (h.setCell (p := ⟨b, o, none⟩) hb v)

theorem compact_sorted (d : Array (List UInt8)) (hd : ∀ i j, i ≤ j → j < d.size → d[i]! ≤ d[j]!) : ∀ m, m ≤ d.size →
    (compactUpTo d m).Pairwise (fun x y => x < y) ∧ (∀ x, x ∈ compactUpTo d m ↔ ∃ j, j < m ∧ d[j]! = x) ∧ (compactUpTo d m).length ≤ m
  | 0, _ => by simp [compactUpTo]
  | m + 1, hm => by
    obtain ⟨h1, h2, h3⟩ := compact_sorted d hd m (by omega)
    rw [compactUpTo_succ]
    by_cases hk : keeps d m = true
    · rw [if_pos hk]
      refine ⟨List.pairwise_append.2 ⟨h1, List.pairwise_singleton _ _, fun x hx y hy => ?_⟩, fun x => ?_, by simp; omega⟩
      · rw [List.mem_singleton.1 hy]
        obtain ⟨j, hj, rfl⟩ := (h2 x).1 hx
        have hne : d[m]! ≠ d[m - 1]! := by
          have : m = 0 ∨ d[m]! ≠ d[m - 1]! := by simpa [keeps] using hk
          exact this.resolve_left (by omega)
        have hle : d[m - 1]! ≤ d[m]! := hd _ _ (by omega) (by omega)
        have hle2 : d[j]! ≤ d[m - 1]! := hd _ _ (by omega) (by omega)
        refine List.not_le.1 fun hh => hne ?_
        exact List.le_antisymm (List.le_trans hh hle2) hle
      · rw [List.mem_append, h2, List.mem_singleton]
        constructor
        · rintro (⟨j, hj, rfl⟩ | rfl)
          · exact ⟨j, by omega, rfl⟩
          · exact ⟨m, by omega, rfl⟩
        · rintro ⟨j, hj, rfl⟩
          rcases Nat.lt_succ_iff_lt_or_eq.1 hj with h | rfl
          · exact .inl ⟨j, h, rfl⟩
          · exact .inr rfl
    · rw [if_neg hk, List.append_nil]
      refine ⟨h1, fun x => ?_, by omega⟩
      have hk' : ¬ (m = 0 ∨ d[m]! ≠ d[m - 1]!) := by simpa [keeps] using hk
      have hm0 : m ≠ 0 := fun h => hk' (.inl h)
      have he : d[m]! = d[m - 1]! := Classical.byContradiction fun h => hk' (.inr h)
      rw [h2]
      constructor
      · rintro ⟨j, hj, rfl⟩; exact ⟨j, by omega, rfl⟩
      · rintro ⟨j, hj, rfl⟩
        rcases Nat.lt_succ_iff_lt_or_eq.1 hj with h | rfl
        · exact ⟨j, h, rfl⟩
        · exact ⟨j - 1, by omega, he.symm⟩

theorem own_block {w : World} {B g n cap : Nat} {l : List ByteArray} (h : w.ownsRow B 9 1 (.slice (some ⟨g, 0, none⟩) n cap) n (vs l)) : ∃ cur, B ≤ g ∧ w.heap[g]? = some (.cells cur 9 (0, 0)) ∧ n ≤ cap ∧ cap ≤ maxLen ∧ cur.size = cap * 1 ∧ cur.toList.take n = vs l := by
  rcases h.2 with ⟨e, _⟩ | ⟨g', cap', cur, e, h1, h2, h3, h4, h5, h6⟩
  · cases e
  · injection e with e1 e2 e3
    injection e1 with e1; injection e1 with e1
    subst e1; subst e3
    exact ⟨cur, h1, h2, h3, h4, h5, by simpa using h6⟩

theorem sort_is (B g cap : Nat) (l : List ByteArray) (w : World) (h : w.ownsRow B 9 1 (.slice (some ⟨g, 0, none⟩) l.length cap) l.length (vs l)) (hn : l.length < 4611686018427387904) :
    Calls Try.prog 30 #[.slice (some ⟨g, 0, none⟩) l.length cap] w fun e w' => e = .returned (.tuple #[]) ∧ ∃ t : List ByteArray, t.length = l.length ∧ (∀ x, x ∈ t ↔ x ∈ l) ∧ (t.map ByteArray.toList).Pairwise (fun x y => x ≤ y) ∧ w'.ownsRow B 9 1 (.slice (some ⟨g, 0, none⟩) t.length cap) t.length (vs t) ∧ Below g w w' := by
  obtain ⟨cur, hB, hb, hnc, hcm, hsz, htk⟩ := own_block h
  have hlen : (l.map ByteArray.toList).length = l.length := by simp
  have hH : Holds encStr w g 0 (l.map ByteArray.toList).toArray := holds_of_block hb (by rw [hlen, htk, vs_enc])
  have hc := Try.slices_Sort_string g 0 cap (l.map ByteArray.toList) w hH (Array.getElem?_eq_some_iff.1 hb).1 (by rw [hlen]; exact hn)
  rw [hlen] at hc
  refine hc.mono ?_
  rintro e w' ⟨rfl, n, os, rfl⟩
  obtain ⟨t, ht⟩ : ∃ t, t = (l.map ByteArray.toList).mergeSort fun x y => decide (x ≤ y) := ⟨_, rfl⟩
  rw [← ht]
  have htl : t.length = (l.map ByteArray.toList).length := by rw [ht]; simp
  have hperm : t.Perm (l.map ByteArray.toList) := by rw [ht]; exact List.mergeSort_perm _ _
  refine ⟨rfl, t.map mk, by simp [htl], fun x => ?_, ?_, ?_, ?_⟩
  · constructor
    · intro hx
      obtain ⟨y, hy, rfl⟩ := List.mem_map.1 hx
      obtain ⟨z, hz, rfl⟩ := List.mem_map.1 (hperm.mem_iff.1 hy)
      rw [mk_data]; exact hz
    · intro hx
      exact List.mem_map.2 ⟨x.toList, hperm.mem_iff.2 (List.mem_map.2 ⟨x, hx, rfl⟩), mk_data x⟩
  · have : (t.map mk).map ByteArray.toList = t := by
      rw [List.map_map]; conv => rhs; rw [← List.map_id t]
      exact List.map_congr_left fun x _ => mk_toList x
    rw [this, ht]
    have := List.pairwise_mergeSort (le := fun x y : List UInt8 => decide (x ≤ y)) (fun a b c h1 h2 => by simp at *; exact List.le_trans h1 h2) (fun a b => by simp; exact List.le_total a b) (l.map ByteArray.toList)
    exact this.imp fun h => by simpa using h
  · have := ownsRow_sorted (base := B) (os := os) (n := n) htl hB hb (by rw [hlen]; exact hnc) hcm hsz
    rw [List.length_map, htl, vs_mk]; exact this
  · exact (Below.refl g w).grown (grownBy_sorted _) (Nat.le_of_lt (Array.getElem?_eq_some_iff.1 hb).1) (fun k hk => by injection hk with hk; omega)

theorem compact_is (B g cap : Nat) (l : List ByteArray) (w : World) (h : w.ownsRow B 9 1 (.slice (some ⟨g, 0, none⟩) l.length cap) l.length (vs l)) (hs : (l.map ByteArray.toList).Pairwise (fun x y => x ≤ y)) :
    Calls Try.prog 31 #[.slice (some ⟨g, 0, none⟩) l.length cap] w fun e w' => ∃ m : List ByteArray, e = .returned (.slice (some ⟨g, 0, none⟩) m.length cap) ∧ Srt m ∧ (∀ x, x ∈ m ↔ x ∈ l) ∧ m.length ≤ l.length ∧ Rd w' (some ⟨g, 0, none⟩) m ∧ Below g w w' := by
  obtain ⟨cur, hB, hb, hnc, hcm, hsz, htk⟩ := own_block h
  have hcell : ∀ i, i < l.length → w.cell? ⟨g, 0 + i, none⟩ = some (.string (l.getD i ByteArray.empty)) := fun i hi => by
    rw [Nat.zero_add, h.cellAt i (by omega)]; simp [vs, hi]
  have hc := Try.slices_Compact_string_cells g 0 l.length cap (fun i => l.getD i ByteArray.empty) w (by unfold maxLen at hcm; omega) hnc hcell (fun j _ => h.frozenAt _)
  have hso : strsOf (fun i => l.getD i ByteArray.empty) l.length = l.map ByteArray.toList := by
    apply List.ext_getElem
    · simp [strsOf]
    · intro i h1 h2
      have hi : i < l.length := by simpa using h2
      simp [strsOf, hi, data_eq]
  rw [hso] at hc
  obtain ⟨k, hk⟩ : ∃ k, k = Lib.compact (l.map ByteArray.toList) := ⟨_, rfl⟩
  rw [← hk] at hc
  have hd := compact_sorted (l.map ByteArray.toList).toArray (fun i j hij hj => by
    have hj' : j < (l.map ByteArray.toList).length := by simpa using hj
    rcases Nat.lt_or_eq_of_le hij with h' | rfl
    · have := List.pairwise_iff_getElem.1 hs i j (by omega) hj' h'
      simpa [getElem!_pos, show i < l.length by simp at hj'; omega, show j < l.length by simpa using hj'] using this
    · exact List.le_refl _) l.length (by simp)
  have hk' : compactUpTo (l.map ByteArray.toList).toArray l.length = k := by rw [hk]; simp [Lib.compact]
  rw [hk'] at hd
  refine hc.mono ?_
  rintro e w' ⟨rfl, q, rfl⟩
  have hkl : k.length ≤ l.length := hd.2.2
  refine ⟨k.map mk, by simp, ?_, fun x => ?_, by simpa using hkl, ?_, ?_⟩
  · unfold Srt
    rw [List.pairwise_map]
    exact hd.1.imp fun h => by rw [mk_toList, mk_toList]; exact h
  · constructor
    · intro hx
      obtain ⟨y, hy, rfl⟩ := List.mem_map.1 hx
      obtain ⟨j, hj, rfl⟩ := (hd.2.1 y).1 hy
      simp [getElem!_pos, hj, mk_data]
    · intro hx
      refine List.mem_map.2 ⟨x.toList, (hd.2.1 _).2 ?_, mk_data x⟩
      obtain ⟨j, hj, e⟩ := List.getElem_of_mem hx
      exact ⟨j, hj, by simp [getElem!_pos, hj, e]⟩
  · refine .inr ⟨g, 0, rfl, fun i x hx => ?_⟩
    have hi : i < k.length := by have := (List.getElem?_eq_some_iff.1 hx).1; simpa using this
    have hlen : ((k ++ List.replicate (l.length - k.length) []).map encStr).length = l.length := by simp; omega
    have := World.cell?_setCells_in g ((k ++ List.replicate (l.length - k.length) []).map encStr) 0 (w.drewN q) (fun j hj => by
      rw [hlen] at hj
      have := hcell j hj
      show (w.cell? _).isSome = true
      rw [this]; rfl) i (by rw [hlen]; omega)
    rw [this]
    have hx' : mk k[i] = x := by simpa [hi] using hx
    rw [← hx']
    simp only [List.map_append, List.map_replicate, mk]
    rw [List.getElem_append_left (by simpa using hi)]
    simp [encStr]
  · exact below_cells g (Nat.le_refl _) _ _ ((Below.refl _ _).trans_drewN q)

theorem compact_at (B g cap n : Nat) (l : List ByteArray) (hl : l.length = n) (w : World) (h : w.ownsRow B 9 1 (.slice (some ⟨g, 0, none⟩) l.length cap) l.length (vs l)) (hs : (l.map ByteArray.toList).Pairwise (fun x y => x ≤ y)) :
    Calls Try.prog 31 #[.slice (some ⟨g, 0, none⟩) n cap] w fun e w' => ∃ m : List ByteArray, e = .returned (.slice (some ⟨g, 0, none⟩) m.length cap) ∧ Srt m ∧ (∀ x, x ∈ m ↔ x ∈ l) ∧ m.length ≤ l.length ∧ Rd w' (some ⟨g, 0, none⟩) m ∧ Below g w w' := by
  subst hl; exact compact_is B g cap l w h hs

theorem own_slice1 {w : World} {B n : Nat} {v : Value} {xs : List Value} (h : w.ownsRow B 9 1 v n xs) (hne : v ≠ .slice none 0 0) : ∃ g cap, v = .slice (some ⟨g, 0, none⟩) n cap ∧ B ≤ g ∧ g < w.heap.size ∧ n ≤ cap ∧ cap ≤ maxLen := by
  rcases h.2 with ⟨rfl, _⟩ | ⟨g, cap, cur, rfl, h1, h2, h3, h4, _⟩
  · exact absurd rfl hne
  · exact ⟨g, cap, rfl, h1, (Array.getElem?_eq_some_iff.1 h2).1, h3, h4⟩

/-- What sets.Make leaves: a set of just the texts of l. -/
def MadeOf (l m : List ByteArray) : Prop := Srt m ∧ (∀ x, x ∈ m ↔ x ∈ l) ∧ m.length ≤ l.length

theorem make_is (A : Option Addr) (l : List ByteArray) (c : Nat) (w : World) (ha : Rd w A l) (hn : l.length < 2 ^ 42) :
    Calls Try.prog 12 #[.slice A l.length c] w fun e w' => ∃ (m : List ByteArray) (C : Option Addr) (k : Nat), e = .returned (.slice C m.length k) ∧ RowKit.Hid (MadeOf l m) ∧ RowKit.Hid (Rd w' C m) ∧ m.length ≤ k ∧ k ≤ maxLen ∧ Below w.heap.size w w' := by
  by_cases hA : A = none
  · subst hA
    have hl : l = [] := by
      rcases ha with h | ⟨b, off, h, _⟩
      · exact h
      · cases h
    subst hl
    go_enter Try.func12, Try.ntmps12
    go_wp2_with (first
      | (go_at_call 29; refine (Try.slices_Clone_string_nil 0 c _).mono ?_; rintro e w1 ⟨rfl, rfl⟩)
      | (go_at_call 30; refine (Try.slices_Sort_string_none none 0 _).mono ?_; rintro e w1 ⟨rfl, rfl⟩)
      | (go_at_call 31; refine (Try.slices_Compact_string_empty none 0 _).mono ?_; rintro e w1 ⟨rfl, rfl⟩))
    go_ret
    exact ⟨[], none, 0, rfl, Lib.hid ⟨List.Pairwise.nil, fun _ => Iff.rfl, Nat.le_refl _⟩, Lib.hid (.inl rfl), Nat.le_refl _, Nat.zero_le _, Below.refl _ _⟩
  · obtain ⟨a, rfl⟩ : ∃ a, A = some a := by cases A with | none => exact absurd rfl hA | some a => exact ⟨a, rfl⟩
    have hclone : Calls Try.prog 29 #[.slice (some a) l.length c] w fun e w' => ∃ g cap, e = .returned (.slice (some ⟨g, 0, none⟩) l.length cap) ∧ w.heap.size ≤ g ∧ l.length ≤ cap ∧ cap ≤ maxLen ∧ RowKit.Hid (w'.ownsRow w.heap.size 9 1 (.slice (some ⟨g, 0, none⟩) l.length cap) l.length (vs l)) ∧ Below w.heap.size w w' := by
      rcases ha with rfl | ⟨b, off, e, hc⟩
      · refine (Try.slices_Clone_string_zero a c w).mono ?_
        rintro e w1 ⟨v', rfl, hown, hne, hb⟩
        obtain ⟨g, cap, rfl, h1, h2, h3, h4⟩ := own_slice1 hown hne
        exact ⟨g, cap, rfl, h1, h3, h4, hown, hb⟩
      · injection e with e; subst e
        refine (Try.slices_Clone_string b off l.length c l w (Nat.le_refl _) (by omega) (fun j hj => by have := hc j l[j] (List.getElem?_eq_getElem hj); rw [this]; simp [hj])).mono ?_
        rintro e w1 ⟨v', rfl, hown, hne, hb⟩
        obtain ⟨g, cap, rfl, h1, h2, h3, h4⟩ := own_slice1 hown hne
        refine ⟨g, cap, rfl, h1, h3, h4, ?_, hb⟩
        rw [List.take_length] at hown
        exact hown
    have HC := Lib.hid hclone
    clear hclone ha
    go_enter Try.func12, Try.ntmps12
    go_wp2_with (first
      | (go_at_call 29; refine HC.out.mono ?_; rintro e w1 ⟨g, cap, rfl, hg, hc1, hc2, hown, hb1⟩; have HB1 := Lib.hid hb1; clear hb1)
      | (go_at_call 30; refine (sort_is _ g cap l w1 hown.out (by omega)).mono ?_; rintro e w2 ⟨rfl, t, htl, htm, hts, hown2, hb2⟩; have HB2 := Lib.hid hb2; have HT := Lib.hid (And.intro htm hts); have HO2 := Lib.hid hown2; have HTL := Lib.hid htl; clear hb2 htm hts hown2 htl)
      | (go_at_call 31; refine (compact_at _ g cap _ t HTL.out w2 HO2.out HT.out.2).mono ?_; rintro e w3 ⟨m, rfl, hms, hmm, hml, hrd, hb3⟩; have HB3 := Lib.hid hb3; have HM := Lib.hid (And.intro hms hmm); have HML := Lib.hid hml; have HRD := Lib.hid hrd; clear hb3 hms hmm hml hrd))
    go_ret
    have h1 := HML.out
    have h2 := HTL.out
    exact ⟨m, _, cap, rfl, Lib.hid ⟨HM.out.1, fun x => (HM.out.2 x).trans (HT.out.1 x), by omega⟩, HRD, by omega, hc2, HB1.out.trans ((HB2.out.mono hg).trans (HB3.out.mono hg))⟩
end Go.Proofs.Ytojnhgeffnjndaa.T
